/- Proved: TwoPow of the program and of the reference agree at every pair of ints and every int. Conditions: none. -/
import Derived.Test.YtaaimmobggkhbaaSayFnExactTwoPow
import Derived.Test.YtaaimmobggkhbaaMod
import Derived.Test.YtaaimmobggkhbaaGauss
set_option linter.unusedVariables false
set_option linter.unusedSimpArgs false
namespace Go.Proofs.Ytaaimmobggkhbaa.Pure
open Go.RowKit Go.Proofs.Ytaaimmobggkhbaa.PFnExactTwoPow Go.Proofs.YtaaimmobggkhbaaW.PrintWords Go.Proofs.YtaaimmobggkhbaaW.PrintLast Go.Proofs.YtaaimmobggkhbaaW.PrintMore
open Go.Proofs.Ytaaimmobggkhbaa.M

theorem spec_FpOf_eq (a : Int) : spec_FpOf.f a = some (a % 12107) := by
  unfold spec_FpOf.f
  rw [tm_eq a 12107 (by omega)]
  have h0 := Int.emod_nonneg a (show (12107 : Int) ≠ 0 by omega)
  have h1 := Int.emod_lt_of_pos a (show (0 : Int) < 12107 by omega)
  by_cases h : 0 ≤ a ∨ (12107 : Int) ∣ a
  · rw [if_pos h, if_neg (by omega)]
    simp
  · rw [if_neg h, if_pos (by omega)]
    unfold wrap64
    congr 1
    omega
theorem spec_FpAdd_eq (a b : Int) : spec_FpAdd.f a b = some ((a + b) % 12107) := by
  unfold spec_FpAdd.f
  simp only [spec_FpOf_eq, Option.bind_some]
  have h0 := Int.emod_nonneg a (show (12107 : Int) ≠ 0 by omega)
  have h1 := Int.emod_lt_of_pos a (show (0 : Int) < 12107 by omega)
  have h2 := Int.emod_nonneg b (show (12107 : Int) ≠ 0 by omega)
  have h3 := Int.emod_lt_of_pos b (show (0 : Int) < 12107 by omega)
  rw [show wrap64 ((a % 12107) + (b % 12107)) = (a % 12107) + (b % 12107) from by unfold wrap64; omega]
  exact congrArg some (Int.add_emod a b 12107).symm
theorem spec_FpSub_eq (a b : Int) : spec_FpSub.f a b = some ((a - b) % 12107) := by
  unfold spec_FpSub.f
  simp only [spec_FpOf_eq, Option.bind_some]
  have h0 := Int.emod_nonneg a (show (12107 : Int) ≠ 0 by omega)
  have h1 := Int.emod_lt_of_pos a (show (0 : Int) < 12107 by omega)
  have h2 := Int.emod_nonneg b (show (12107 : Int) ≠ 0 by omega)
  have h3 := Int.emod_lt_of_pos b (show (0 : Int) < 12107 by omega)
  rw [show wrap64 ((a % 12107) - (b % 12107)) = (a % 12107) - (b % 12107) from by unfold wrap64; omega]
  exact congrArg some (Int.sub_emod a b 12107).symm
theorem spec_FpMul_eq (a b : Int) : spec_FpMul.f a b = some ((a * b) % 12107) := by
  unfold spec_FpMul.f
  simp only [spec_FpOf_eq, Option.bind_some]
  have h0 := Int.emod_nonneg a (show (12107 : Int) ≠ 0 by omega)
  have h1 := Int.emod_lt_of_pos a (show (0 : Int) < 12107 by omega)
  have h2 := Int.emod_nonneg b (show (12107 : Int) ≠ 0 by omega)
  have h3 := Int.emod_lt_of_pos b (show (0 : Int) < 12107 by omega)
  rw [show wrap64 ((a % 12107) * (b % 12107)) = (a % 12107) * (b % 12107) from wrap_mul _ _ 12107 (by omega) h0 h1 h2 h3]
  exact congrArg some (Int.mul_emod a b 12107).symm
theorem spec_TwoMul_eq (a b c d : Int) : spec_TwoMul.f a b c d = some ((a * c - b * d) % 12107, (a * d + b * c) % 12107) := by
  unfold spec_TwoMul.f
  simp only [spec_FpMul_eq, spec_FpSub_eq, spec_FpAdd_eq, Option.bind_some, Int.emod_add_emod, Int.add_emod_emod, Int.emod_sub_emod, Int.sub_emod_emod]
theorem spec_TwoPow_l0 : ∀ (d k : Nat) (n : Int) (x r : G), d < k → 0 ≤ n → n < 2 ^ d → n ≤ 9223372036854775807 → G.Small r →
    spec_TwoPow.l0 k n r.re r.im x.re x.im = some ((G.mul r (G.pow x n.toNat)).re % 12107, (G.mul r (G.pow x n.toNat)).im % 12107) := by
  intro d
  induction d with
  | zero =>
    intro k n x r hk h0 h1 _ hr
    obtain ⟨k, rfl⟩ : ∃ j, k = j + 1 := ⟨k - 1, by omega⟩
    obtain rfl : n = 0 := by omega
    simp only [spec_TwoPow.l0]
    rw [if_neg (by omega), show (0 : Int).toNat = 0 from rfl, G.pow_zero, G.mul_one, hr.re, hr.im]
  | succ d ih =>
    intro k n x r hk h0 h1 hb hr
    obtain ⟨k, rfl⟩ : ∃ j, k = j + 1 := ⟨k - 1, by omega⟩
    rw [Int.pow_succ] at h1
    simp only [spec_TwoPow.l0]
    by_cases hn : n > 0
    · rw [if_pos hn]
      have e2 : Int.tmod n 2 = n % 2 := Int.tmod_eq_emod_of_nonneg h0
      have e3 : wrap64 (Int.tdiv n 2) = n / 2 := by
        rw [Int.tdiv_eq_ediv_of_nonneg h0]; unfold wrap64; omega
      rw [e2, e3]
      simp only [spec_TwoMul_eq, Option.bind_some]
      have hp : G.pow x n.toNat = G.mul (G.pow x (n.toNat % 2)) (G.pow (G.mul x x) (n / 2).toNat) := by
        rw [G.pow_half x n.toNat]
        congr 2
        omega
      have sq : ∀ a, G.Eqv (G.mul a (G.pow (G.red (G.mul x x)) (n / 2).toNat)) (G.mul a (G.pow (G.mul x x) (n / 2).toNat)) := fun a => G.mul_congr (G.Eqv.refl a) (G.pow_congr (G.red_eqv _) _)
      by_cases ho : n % 2 = 1
      · rw [if_pos ho]
        have h := ih k (n / 2) (G.red (G.mul x x)) (G.red (G.mul r x)) (by omega) (by omega) (by omega) (by omega) (G.red_small _)
        refine Eq.trans h ?_
        rw [hp, show n.toNat % 2 = 1 by omega, G.pow_one, ← G.mul_assoc]
        exact G.pair_eq ((G.mul_congr (G.red_eqv _) (G.Eqv.refl _)).trans (sq _))
      · rw [if_neg ho]
        have h := ih k (n / 2) (G.red (G.mul x x)) r (by omega) (by omega) (by omega) (by omega) hr
        refine Eq.trans h ?_
        rw [hp, show n.toNat % 2 = 0 by omega, G.pow_zero, G.one_mul]
        exact G.pair_eq (sq _)
    · rw [if_neg hn]
      obtain rfl : n = 0 := by omega
      rw [show (0 : Int).toNat = 0 from rfl, G.pow_zero, G.mul_one, hr.re, hr.im]
theorem spec_TwoPow_eq (k : Nat) (hk : 63 < k) (a b n : Int) (hb : n ≤ 9223372036854775807) : spec_TwoPow.f k a b n = some (if n < 0 then (0, 0) else ((G.pow ⟨a, b⟩ n.toNat).re % 12107, (G.pow ⟨a, b⟩ n.toNat).im % 12107)) := by
  unfold spec_TwoPow.f
  by_cases hn : n < 0
  · rw [if_pos hn, if_pos hn]
  · rw [if_neg hn, if_neg hn]
    simp only [spec_FpOf_eq, Option.bind_some]
    refine Eq.trans (spec_TwoPow_l0 63 k n (G.red ⟨a, b⟩) G.one hk (by omega) (by omega) hb ⟨rfl, rfl⟩) ?_
    rw [G.one_mul]
    exact G.pair_eq (G.pow_congr (G.red_eqv _) _)
theorem impl_remainder_eq (a m : Int) (h : 0 < m) (hm : m ≤ 1000000) : impl_remainder.f a m = some (a % m) := by
  unfold impl_remainder.f
  rw [if_neg (by omega), tm_eq a m h]
  have h0 := Int.emod_nonneg a (show m ≠ 0 by omega)
  have h1 := Int.emod_lt_of_pos a h
  by_cases hc : 0 ≤ a ∨ m ∣ a
  · rw [if_pos hc, if_neg (by omega)]
    simp
  · rw [if_neg hc, if_pos (by omega)]
    unfold wrap64
    congr 1
    omega
theorem impl_FpOf_eq (a : Int) : impl_FpOf.f a = some (a % 12107) := by
  unfold impl_FpOf.f
  rw [impl_remainder_eq a 12107 (by omega) (by omega)]
  rfl
theorem impl_FpAdd_eq (a b : Int) : impl_FpAdd.f a b = some ((a + b) % 12107) := by
  unfold impl_FpAdd.f
  simp only [impl_FpOf_eq, Option.bind_some]
  have h0 := Int.emod_nonneg a (show (12107 : Int) ≠ 0 by omega)
  have h1 := Int.emod_lt_of_pos a (show (0 : Int) < 12107 by omega)
  have h2 := Int.emod_nonneg b (show (12107 : Int) ≠ 0 by omega)
  have h3 := Int.emod_lt_of_pos b (show (0 : Int) < 12107 by omega)
  rw [show wrap64 ((a % 12107) + (b % 12107)) = (a % 12107) + (b % 12107) from by unfold wrap64; omega]
  exact congrArg some (Int.add_emod a b 12107).symm
theorem impl_FpSub_eq (a b : Int) : impl_FpSub.f a b = some ((a - b) % 12107) := by
  unfold impl_FpSub.f
  simp only [impl_FpOf_eq, Option.bind_some]
  have h0 := Int.emod_nonneg a (show (12107 : Int) ≠ 0 by omega)
  have h1 := Int.emod_lt_of_pos a (show (0 : Int) < 12107 by omega)
  have h2 := Int.emod_nonneg b (show (12107 : Int) ≠ 0 by omega)
  have h3 := Int.emod_lt_of_pos b (show (0 : Int) < 12107 by omega)
  rw [show wrap64 ((a % 12107) - (b % 12107)) = (a % 12107) - (b % 12107) from by unfold wrap64; omega]
  exact congrArg some (Int.sub_emod a b 12107).symm
theorem impl_FpMul_eq (a b : Int) : impl_FpMul.f a b = some ((a * b) % 12107) := by
  unfold impl_FpMul.f
  simp only [impl_FpOf_eq, Option.bind_some]
  have h0 := Int.emod_nonneg a (show (12107 : Int) ≠ 0 by omega)
  have h1 := Int.emod_lt_of_pos a (show (0 : Int) < 12107 by omega)
  have h2 := Int.emod_nonneg b (show (12107 : Int) ≠ 0 by omega)
  have h3 := Int.emod_lt_of_pos b (show (0 : Int) < 12107 by omega)
  rw [show wrap64 ((a % 12107) * (b % 12107)) = (a % 12107) * (b % 12107) from wrap_mul _ _ 12107 (by omega) h0 h1 h2 h3]
  exact congrArg some (Int.mul_emod a b 12107).symm
theorem impl_TwoMul_eq (a b c d : Int) : impl_TwoMul.f a b c d = some ((a * c - b * d) % 12107, (a * d + b * c) % 12107) := by
  unfold impl_TwoMul.f
  simp only [impl_FpMul_eq, impl_FpSub_eq, impl_FpAdd_eq, Option.bind_some, Int.emod_add_emod, Int.add_emod_emod, Int.emod_sub_emod, Int.sub_emod_emod]
theorem impl_TwoPow_l0 : ∀ (d k : Nat) (n : Int) (x r : G), d < k → 0 ≤ n → n < 2 ^ d → n ≤ 9223372036854775807 → G.Small r →
    impl_TwoPow.l0 k n x.re x.im r.re r.im = some ((G.mul r (G.pow x n.toNat)).re % 12107, (G.mul r (G.pow x n.toNat)).im % 12107) := by
  intro d
  induction d with
  | zero =>
    intro k n x r hk h0 h1 _ hr
    obtain ⟨k, rfl⟩ : ∃ j, k = j + 1 := ⟨k - 1, by omega⟩
    obtain rfl : n = 0 := by omega
    simp only [impl_TwoPow.l0]
    rw [if_neg (by omega), show (0 : Int).toNat = 0 from rfl, G.pow_zero, G.mul_one, hr.re, hr.im]
  | succ d ih =>
    intro k n x r hk h0 h1 hb hr
    obtain ⟨k, rfl⟩ : ∃ j, k = j + 1 := ⟨k - 1, by omega⟩
    rw [Int.pow_succ] at h1
    simp only [impl_TwoPow.l0]
    by_cases hn : n > 0
    · rw [if_pos hn]
      have e2 : Int.tmod n 2 = n % 2 := Int.tmod_eq_emod_of_nonneg h0
      have e3 : wrap64 (Int.tdiv n 2) = n / 2 := by
        rw [Int.tdiv_eq_ediv_of_nonneg h0]; unfold wrap64; omega
      rw [e2, e3]
      simp only [impl_TwoMul_eq, Option.bind_some]
      have hp : G.pow x n.toNat = G.mul (G.pow x (n.toNat % 2)) (G.pow (G.mul x x) (n / 2).toNat) := by
        rw [G.pow_half x n.toNat]
        congr 2
        omega
      have sq : ∀ a, G.Eqv (G.mul a (G.pow (G.red (G.mul x x)) (n / 2).toNat)) (G.mul a (G.pow (G.mul x x) (n / 2).toNat)) := fun a => G.mul_congr (G.Eqv.refl a) (G.pow_congr (G.red_eqv _) _)
      by_cases ho : n % 2 = 1
      · rw [if_pos ho]
        have h := ih k (n / 2) (G.red (G.mul x x)) (G.red (G.mul r x)) (by omega) (by omega) (by omega) (by omega) (G.red_small _)
        refine Eq.trans h ?_
        rw [hp, show n.toNat % 2 = 1 by omega, G.pow_one, ← G.mul_assoc]
        exact G.pair_eq ((G.mul_congr (G.red_eqv _) (G.Eqv.refl _)).trans (sq _))
      · rw [if_neg ho]
        have h := ih k (n / 2) (G.red (G.mul x x)) r (by omega) (by omega) (by omega) (by omega) hr
        refine Eq.trans h ?_
        rw [hp, show n.toNat % 2 = 0 by omega, G.pow_zero, G.one_mul]
        exact G.pair_eq (sq _)
    · rw [if_neg hn]
      obtain rfl : n = 0 := by omega
      rw [show (0 : Int).toNat = 0 from rfl, G.pow_zero, G.mul_one, hr.re, hr.im]
theorem impl_TwoPow_eq (k : Nat) (hk : 63 < k) (a b n : Int) (hb : n ≤ 9223372036854775807) : impl_TwoPow.f k a b n = some (if n < 0 then (0, 0) else ((G.pow ⟨a, b⟩ n.toNat).re % 12107, (G.pow ⟨a, b⟩ n.toNat).im % 12107)) := by
  unfold impl_TwoPow.f
  by_cases hn : n < 0
  · rw [if_pos hn, if_pos hn]
  · rw [if_neg hn, if_neg hn]
    refine Eq.trans (impl_TwoPow_l0 63 k n ⟨a, b⟩ G.one hk (by omega) (by omega) hb ⟨rfl, rfl⟩) ?_
    rw [G.one_mul]
theorem FnExactTwoPow : laws_FnExactTwoPow.Pure := by
  intro a b n _ _ hn
  have hb := i64_bounds hn
  refine ⟨64, ?_⟩
  unfold laws_FnExactTwoPow.f laws_toTwo.f laws_eqTwo.f
  simp only [Option.bind_some, spec_TwoPow_eq 64 (by omega) _ _ n hb.2, impl_TwoPow_eq 64 (by omega) _ _ n hb.2]
  simp

end Go.Proofs.Ytaaimmobggkhbaa.Pure
