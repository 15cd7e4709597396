/- Proved: TwoInv of the program and of the reference agree at all pairs of ints. Conditions: none. -/
import Derived.Test.YtaaimmobggkhbaaSayFnExactTwoInv
import Derived.Test.YtaaimmobggkhbaaMod
set_option linter.unusedVariables false
set_option linter.unusedSimpArgs false
namespace Go.Proofs.Ytaaimmobggkhbaa.Pure
open Go.RowKit Go.Proofs.Ytaaimmobggkhbaa.PFnExactTwoInv Go.Proofs.YtaaimmobggkhbaaW.PrintWords Go.Proofs.YtaaimmobggkhbaaW.PrintLast Go.Proofs.YtaaimmobggkhbaaW.PrintMore
open Go.Proofs.Ytaaimmobggkhbaa.M

theorem spec_FpOf_eq (a : Int) : spec_FpOf.f a = some (a % 12107) := by
  unfold spec_FpOf.f
  rw [tm_eq a 12107 (by omega)]
  have h0 := Int.emod_nonneg a (show (12107 : Int) ≠ 0 by omega)
  have h1 := Int.emod_lt_of_pos a (show (0 : Int) < 12107 by omega)
  by_cases h : 0 ≤ a ∨ (12107 : Int) ∣ a
  · rw [if_pos h, if_neg (by omega)]
    simp
  · rw [if_neg h, if_pos (by omega)]
    unfold wrap64
    congr 1
    omega
theorem spec_FpMul_eq (a b : Int) : spec_FpMul.f a b = some ((a * b) % 12107) := by
  unfold spec_FpMul.f
  simp only [spec_FpOf_eq, Option.bind_some]
  have h0 := Int.emod_nonneg a (show (12107 : Int) ≠ 0 by omega)
  have h1 := Int.emod_lt_of_pos a (show (0 : Int) < 12107 by omega)
  have h2 := Int.emod_nonneg b (show (12107 : Int) ≠ 0 by omega)
  have h3 := Int.emod_lt_of_pos b (show (0 : Int) < 12107 by omega)
  rw [show wrap64 ((a % 12107) * (b % 12107)) = (a % 12107) * (b % 12107) from wrap_mul _ _ 12107 (by omega) h0 h1 h2 h3]
  exact congrArg some (Int.mul_emod a b 12107).symm
theorem spec_FpPow_l0 : ∀ (d k : Nat) (x n r : Int), d < k → 0 ≤ n → n < 2 ^ d → n ≤ 9223372036854775807 → 0 ≤ r → r < 12107 →
    spec_FpPow.l0 k n r x = some (r * x ^ n.toNat % 12107) := by
  intro d
  induction d with
  | zero =>
    intro k x n r hk h0 h1 _ hr0 hr1
    obtain ⟨k, rfl⟩ : ∃ j, k = j + 1 := ⟨k - 1, by omega⟩
    obtain rfl : n = 0 := by omega
    simp only [spec_FpPow.l0]
    rw [if_neg (by omega)]
    simp [Int.emod_eq_of_lt hr0 hr1]
  | succ d ih =>
    intro k x n r hk h0 h1 hb hr0 hr1
    obtain ⟨k, rfl⟩ : ∃ j, k = j + 1 := ⟨k - 1, by omega⟩
    rw [Int.pow_succ] at h1
    simp only [spec_FpPow.l0]
    by_cases hn : n > 0
    · rw [if_pos hn]
      have e2 : Int.tmod n 2 = n % 2 := Int.tmod_eq_emod_of_nonneg h0
      have e3 : wrap64 (Int.tdiv n 2) = n / 2 := by
        rw [Int.tdiv_eq_ediv_of_nonneg h0]; unfold wrap64; omega
      rw [e2, e3]
      simp only [spec_FpMul_eq, Option.bind_some]
      have q0 := Int.emod_nonneg (r * x) (show (12107 : Int) ≠ 0 by omega)
      have q1 := Int.emod_lt_of_pos (r * x) (show (0 : Int) < 12107 by omega)
      have hp : x ^ n.toNat = x ^ (n.toNat % 2) * (x * x) ^ (n / 2).toNat := by
        rw [pow_half x n.toNat]
        congr 2
        omega
      by_cases ho : n % 2 = 1
      · rw [if_pos ho, ih k _ _ _ (by omega) (by omega) (by omega) (by omega) q0 q1, hp, show n.toNat % 2 = 1 by omega]
        congr 1
        rw [Int.pow_succ, Int.pow_zero, Int.one_mul, emod_mul_l, ← emod_mul_r, emod_pow, emod_mul_r, Int.mul_assoc]
      · rw [if_neg ho, ih k _ _ _ (by omega) (by omega) (by omega) (by omega) hr0 hr1, hp, show n.toNat % 2 = 0 by omega]
        congr 1
        rw [Int.pow_zero, Int.one_mul, ← emod_mul_r, emod_pow, emod_mul_r]
    · rw [if_neg hn]
      obtain rfl : n = 0 := by omega
      simp [Int.emod_eq_of_lt hr0 hr1]
theorem spec_FpPow_eq (k : Nat) (hk : 63 < k) (a n : Int) (hb : n ≤ 9223372036854775807) : spec_FpPow.f k a n = some (if n < 0 then 0 else a ^ n.toNat % 12107) := by
  unfold spec_FpPow.f
  by_cases hn : n < 0
  · rw [if_pos hn, if_pos hn]
  · rw [if_neg hn, if_neg hn, spec_FpOf_eq]
    simp only [Option.bind_some]
    rw [spec_FpPow_l0 63 k _ n 1 hk (by omega) (by omega) hb (by omega) (by omega), Int.one_mul, emod_pow]
theorem spec_FpInv_eq (k : Nat) (hk : 63 < k) (a : Int) : spec_FpInv.f k a = some (a ^ 12105 % 12107) := by
  unfold spec_FpInv.f
  rw [spec_FpPow_eq k hk a 12105 (by omega)]
  rfl
theorem spec_FpAdd_eq (a b : Int) : spec_FpAdd.f a b = some ((a + b) % 12107) := by
  unfold spec_FpAdd.f
  simp only [spec_FpOf_eq, Option.bind_some]
  have h0 := Int.emod_nonneg a (show (12107 : Int) ≠ 0 by omega)
  have h1 := Int.emod_lt_of_pos a (show (0 : Int) < 12107 by omega)
  have h2 := Int.emod_nonneg b (show (12107 : Int) ≠ 0 by omega)
  have h3 := Int.emod_lt_of_pos b (show (0 : Int) < 12107 by omega)
  rw [show wrap64 ((a % 12107) + (b % 12107)) = (a % 12107) + (b % 12107) from by unfold wrap64; omega]
  exact congrArg some (Int.add_emod a b 12107).symm
theorem spec_FpSub_eq (a b : Int) : spec_FpSub.f a b = some ((a - b) % 12107) := by
  unfold spec_FpSub.f
  simp only [spec_FpOf_eq, Option.bind_some]
  have h0 := Int.emod_nonneg a (show (12107 : Int) ≠ 0 by omega)
  have h1 := Int.emod_lt_of_pos a (show (0 : Int) < 12107 by omega)
  have h2 := Int.emod_nonneg b (show (12107 : Int) ≠ 0 by omega)
  have h3 := Int.emod_lt_of_pos b (show (0 : Int) < 12107 by omega)
  rw [show wrap64 ((a % 12107) - (b % 12107)) = (a % 12107) - (b % 12107) from by unfold wrap64; omega]
  exact congrArg some (Int.sub_emod a b 12107).symm
theorem spec_TwoInv_eq (k : Nat) (hk : 63 < k) (a b : Int) : spec_TwoInv.f k a b = some (a * (a * a + b * b) ^ 12105 % 12107, (0 - b) * (a * a + b * b) ^ 12105 % 12107) := by
  unfold spec_TwoInv.f
  simp only [spec_FpMul_eq, spec_FpSub_eq, spec_FpAdd_eq, Option.bind_some, ← Int.add_emod]
  simp only [spec_FpInv_eq k hk, Option.bind_some, emod_pow, emod_mul_l, emod_mul_r]
theorem impl_remainder_eq (a m : Int) (h : 0 < m) (hm : m ≤ 1000000) : impl_remainder.f a m = some (a % m) := by
  unfold impl_remainder.f
  rw [if_neg (by omega), tm_eq a m h]
  have h0 := Int.emod_nonneg a (show m ≠ 0 by omega)
  have h1 := Int.emod_lt_of_pos a h
  by_cases hc : 0 ≤ a ∨ m ∣ a
  · rw [if_pos hc, if_neg (by omega)]
    simp
  · rw [if_neg hc, if_pos (by omega)]
    unfold wrap64
    congr 1
    omega
theorem impl_powerMod_l0 (m : Int) (hm : 0 < m) (hm2 : m ≤ 100000) : ∀ (d k : Nat) (x n r : Int), d < k → 0 ≤ n → n < 2 ^ d → n ≤ 9223372036854775807 → 0 ≤ x → x < m → 0 ≤ r → r < m →
    impl_powerMod.l0 k x n m r = some (r * x ^ n.toNat % m) := by
  intro d
  induction d with
  | zero =>
    intro k x n r hk h0 h1 _ _ _ hr0 hr1
    obtain ⟨k, rfl⟩ : ∃ j, k = j + 1 := ⟨k - 1, by omega⟩
    obtain rfl : n = 0 := by omega
    simp only [impl_powerMod.l0]
    rw [if_neg (by omega)]
    simp [Int.emod_eq_of_lt hr0 hr1]
  | succ d ih =>
    intro k x n r hk h0 h1 hb hx0 hx1 hr0 hr1
    obtain ⟨k, rfl⟩ : ∃ j, k = j + 1 := ⟨k - 1, by omega⟩
    rw [Int.pow_succ] at h1
    simp only [impl_powerMod.l0]
    by_cases hn : n > 0
    · have hm0 : ¬ m = 0 := by omega
      rw [if_pos hn]
      have e2 : Int.tmod n 2 = n % 2 := Int.tmod_eq_emod_of_nonneg h0
      have e3 : wrap64 (Int.tdiv n 2) = n / 2 := by
        rw [Int.tdiv_eq_ediv_of_nonneg h0]; unfold wrap64; omega
      have sq : Int.tmod (wrap64 (x * x)) m = x * x % m := by
        rw [wrap_mul x x m (by omega) hx0 hx1 hx0 hx1, Int.tmod_eq_emod_of_nonneg (Int.mul_nonneg hx0 hx0)]
      have rx : Int.tmod (wrap64 (r * x)) m = r * x % m := by
        rw [wrap_mul r x m (by omega) hr0 hr1 hx0 hx1, Int.tmod_eq_emod_of_nonneg (Int.mul_nonneg hr0 hx0)]
      rw [e2, e3, sq, rx]
      have p0 := Int.emod_nonneg (x * x) (show m ≠ 0 by omega)
      have p1 := Int.emod_lt_of_pos (x * x) hm
      have q0 := Int.emod_nonneg (r * x) (show m ≠ 0 by omega)
      have q1 := Int.emod_lt_of_pos (r * x) hm
      have hp : x ^ n.toNat = x ^ (n.toNat % 2) * (x * x) ^ (n / 2).toNat := by
        rw [pow_half x n.toNat]
        congr 2
        omega
      by_cases ho : n % 2 = 1
      · rw [if_pos ho, if_neg hm0, ih k _ _ _ (by omega) (by omega) (by omega) (by omega) p0 p1 q0 q1, hp, show n.toNat % 2 = 1 by omega]
        congr 1
        rw [Int.pow_succ, Int.pow_zero, Int.one_mul, emod_mul_l, ← emod_mul_r, emod_pow, emod_mul_r, Int.mul_assoc]
      · rw [if_neg ho, if_neg hm0, ih k _ _ _ (by omega) (by omega) (by omega) (by omega) p0 p1 hr0 hr1, hp, show n.toNat % 2 = 0 by omega]
        congr 1
        rw [Int.pow_zero, Int.one_mul, ← emod_mul_r, emod_pow, emod_mul_r]
    · rw [if_neg hn]
      obtain rfl : n = 0 := by omega
      simp [Int.emod_eq_of_lt hr0 hr1]
theorem impl_powerMod_eq (k : Nat) (hk : 63 < k) (a n m : Int) (hm : 1 < m) (hm2 : m ≤ 100000) (h0 : 0 ≤ n) (hb : n ≤ 9223372036854775807) : impl_powerMod.f k a n m = some (a ^ n.toNat % m) := by
  unfold impl_powerMod.f
  rw [impl_remainder_eq a m (by omega) (by omega)]
  simp only [Option.bind_some]
  rw [impl_powerMod_l0 m (by omega) hm2 63 k _ n 1 hk h0 (by omega) hb (Int.emod_nonneg a (by omega)) (Int.emod_lt_of_pos a (by omega)) (by omega) (by omega)]
  rw [Int.one_mul, emod_pow]
theorem impl_FpInv_eq (k : Nat) (hk : 63 < k) (a : Int) : impl_FpInv.f k a = some (a ^ 12105 % 12107) := by
  unfold impl_FpInv.f
  rw [impl_powerMod_eq k hk a 12105 12107 (by omega) (by omega) (by omega) (by omega)]
  rfl
theorem impl_FpOf_eq (a : Int) : impl_FpOf.f a = some (a % 12107) := by
  unfold impl_FpOf.f
  rw [impl_remainder_eq a 12107 (by omega) (by omega)]
  rfl
theorem impl_FpAdd_eq (a b : Int) : impl_FpAdd.f a b = some ((a + b) % 12107) := by
  unfold impl_FpAdd.f
  simp only [impl_FpOf_eq, Option.bind_some]
  have h0 := Int.emod_nonneg a (show (12107 : Int) ≠ 0 by omega)
  have h1 := Int.emod_lt_of_pos a (show (0 : Int) < 12107 by omega)
  have h2 := Int.emod_nonneg b (show (12107 : Int) ≠ 0 by omega)
  have h3 := Int.emod_lt_of_pos b (show (0 : Int) < 12107 by omega)
  rw [show wrap64 ((a % 12107) + (b % 12107)) = (a % 12107) + (b % 12107) from by unfold wrap64; omega]
  exact congrArg some (Int.add_emod a b 12107).symm
theorem impl_FpSub_eq (a b : Int) : impl_FpSub.f a b = some ((a - b) % 12107) := by
  unfold impl_FpSub.f
  simp only [impl_FpOf_eq, Option.bind_some]
  have h0 := Int.emod_nonneg a (show (12107 : Int) ≠ 0 by omega)
  have h1 := Int.emod_lt_of_pos a (show (0 : Int) < 12107 by omega)
  have h2 := Int.emod_nonneg b (show (12107 : Int) ≠ 0 by omega)
  have h3 := Int.emod_lt_of_pos b (show (0 : Int) < 12107 by omega)
  rw [show wrap64 ((a % 12107) - (b % 12107)) = (a % 12107) - (b % 12107) from by unfold wrap64; omega]
  exact congrArg some (Int.sub_emod a b 12107).symm
theorem impl_FpMul_eq (a b : Int) : impl_FpMul.f a b = some ((a * b) % 12107) := by
  unfold impl_FpMul.f
  simp only [impl_FpOf_eq, Option.bind_some]
  have h0 := Int.emod_nonneg a (show (12107 : Int) ≠ 0 by omega)
  have h1 := Int.emod_lt_of_pos a (show (0 : Int) < 12107 by omega)
  have h2 := Int.emod_nonneg b (show (12107 : Int) ≠ 0 by omega)
  have h3 := Int.emod_lt_of_pos b (show (0 : Int) < 12107 by omega)
  rw [show wrap64 ((a % 12107) * (b % 12107)) = (a % 12107) * (b % 12107) from wrap_mul _ _ 12107 (by omega) h0 h1 h2 h3]
  exact congrArg some (Int.mul_emod a b 12107).symm
theorem impl_TwoInv_eq (k : Nat) (hk : 63 < k) (a b : Int) : impl_TwoInv.f k a b = some (a * (a * a + b * b) ^ 12105 % 12107, (0 - b) * (a * a + b * b) ^ 12105 % 12107) := by
  unfold impl_TwoInv.f
  simp only [impl_FpMul_eq, impl_FpSub_eq, impl_FpAdd_eq, Option.bind_some, ← Int.add_emod]
  simp only [impl_FpInv_eq k hk, Option.bind_some, emod_pow, emod_mul_l, emod_mul_r]
theorem FnExactTwoInv : laws_FnExactTwoInv.Pure := by
  intro a b _ _
  refine ⟨64, ?_⟩
  unfold laws_FnExactTwoInv.f laws_toTwo.f laws_eqTwo.f
  simp only [Option.bind_some, spec_TwoInv_eq 64 (by omega), impl_TwoInv_eq 64 (by omega)]
  simp

end Go.Proofs.Ytaaimmobggkhbaa.Pure
