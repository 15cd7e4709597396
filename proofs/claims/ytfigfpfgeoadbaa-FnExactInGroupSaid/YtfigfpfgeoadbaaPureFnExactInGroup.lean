/- Proved: InGroup of the program and of the reference agree at every point. Conditions: none. -/
import Derived.Test.YtfigfpfgeoadbaaSayFnExactInGroup
import Derived.Test.YtfigfpfgeoadbaaMod
import Derived.Test.YtfigfpfgeoadbaaPoint
set_option linter.unusedVariables false
set_option linter.unusedSimpArgs false
namespace Go.Proofs.Ytfigfpfgeoadbaa.Pure
open Go.RowKit Go.Proofs.Ytfigfpfgeoadbaa.PFnExactInGroup Go.Proofs.YtfigfpfgeoadbaaW.PrintWords Go.Proofs.YtfigfpfgeoadbaaW.PrintLast Go.Proofs.YtfigfpfgeoadbaaW.PrintMore
open Go.Proofs.Ytfigfpfgeoadbaa.M

theorem spec_FpOk_eq (a : Int) : spec_FpOk.f a = some (decide (0 ≤ a ∧ a < 12107)) := by
  unfold spec_FpOk.f spec_l01In.f
  by_cases h : a ≥ 0
  · rw [if_pos h]
    (try simp only [Option.bind_some])
    congr 1
    rw [decide_eq_decide]
    omega
  · rw [if_neg h]
    (try simp only [Option.bind_some])
    congr 1
    symm
    rw [decide_eq_false_iff_not]
    omega
theorem spec_FpOf_eq (a : Int) : spec_FpOf.f a = some (a % 12107) := by
  unfold spec_FpOf.f
  rw [tm_eq a 12107 (by omega)]
  have h0 := Int.emod_nonneg a (show (12107 : Int) ≠ 0 by omega)
  have h1 := Int.emod_lt_of_pos a (show (0 : Int) < 12107 by omega)
  by_cases h : 0 ≤ a ∨ (12107 : Int) ∣ a
  · rw [if_pos h, if_neg (by omega)]
    simp
  · rw [if_neg h, if_pos (by omega)]
    unfold wrap64
    congr 1
    omega
theorem spec_FpMul_eq (a b : Int) : spec_FpMul.f a b = some ((a * b) % 12107) := by
  unfold spec_FpMul.f
  simp only [spec_FpOf_eq, Option.bind_some]
  have h0 := Int.emod_nonneg a (show (12107 : Int) ≠ 0 by omega)
  have h1 := Int.emod_lt_of_pos a (show (0 : Int) < 12107 by omega)
  have h2 := Int.emod_nonneg b (show (12107 : Int) ≠ 0 by omega)
  have h3 := Int.emod_lt_of_pos b (show (0 : Int) < 12107 by omega)
  rw [show wrap64 ((a % 12107) * (b % 12107)) = (a % 12107) * (b % 12107) from wrap_mul _ _ 12107 (by omega) h0 h1 h2 h3]
  exact congrArg some (Int.mul_emod a b 12107).symm
theorem spec_FpAdd_eq (a b : Int) : spec_FpAdd.f a b = some ((a + b) % 12107) := by
  unfold spec_FpAdd.f
  simp only [spec_FpOf_eq, Option.bind_some]
  have h0 := Int.emod_nonneg a (show (12107 : Int) ≠ 0 by omega)
  have h1 := Int.emod_lt_of_pos a (show (0 : Int) < 12107 by omega)
  have h2 := Int.emod_nonneg b (show (12107 : Int) ≠ 0 by omega)
  have h3 := Int.emod_lt_of_pos b (show (0 : Int) < 12107 by omega)
  rw [show wrap64 ((a % 12107) + (b % 12107)) = (a % 12107) + (b % 12107) from by unfold wrap64; omega]
  exact congrArg some (Int.add_emod a b 12107).symm
theorem spec_l07Right_eq (x : Int) : spec_l07Right.f x = some ((x * x * x + x) % 12107) := by
  unfold spec_l07Right.f
  simp only [spec_FpMul_eq, spec_FpAdd_eq, Option.bind_some, Int.emod_add_emod, emod_mul_l]
  rw [Int.add_emod, emod_mul_l, ← Int.add_emod]
theorem spec_PointOk_eq (x y : Int) (z : Bool) : spec_PointOk.f x y z = some (okPoint x y z) := by
  unfold spec_PointOk.f okPoint
  cases z
  · simp only [Bool.false_eq_true, if_false, spec_FpOk_eq, spec_FpMul_eq, spec_l07Right_eq, Option.bind_some, decide_eq_true_eq]
    by_cases hx : 0 ≤ x ∧ x < 12107
    · rw [if_pos hx]
      by_cases hy : 0 ≤ y ∧ y < 12107
      · rw [if_pos hy]
        congr 1
        rw [Bool.eq_iff_iff, beq_iff_eq, decide_eq_true_eq]
        exact ⟨fun h => ⟨hx.1, hx.2, hy.1, hy.2, h⟩, fun h => h.2.2.2.2⟩
      · rw [if_neg hy]
        congr 1
        symm
        rw [decide_eq_false_iff_not]
        exact fun h => hy ⟨h.2.2.1, h.2.2.2.1⟩
    · rw [if_neg hx]
      congr 1
      symm
      rw [decide_eq_false_iff_not]
      exact fun h => hx ⟨h.1, h.2.1⟩
  · simp only [if_true]
    by_cases hx : x = 0
    · rw [if_pos hx]
      congr 1
      rw [Bool.eq_iff_iff, beq_iff_eq, decide_eq_true_eq]
      exact ⟨fun h => ⟨hx, h⟩, fun h => h.2⟩
    · rw [if_neg hx]
      congr 1
      symm
      rw [decide_eq_false_iff_not]
      exact fun h => hx h.1
theorem spec_FpSub_eq (a b : Int) : spec_FpSub.f a b = some ((a - b) % 12107) := by
  unfold spec_FpSub.f
  simp only [spec_FpOf_eq, Option.bind_some]
  have h0 := Int.emod_nonneg a (show (12107 : Int) ≠ 0 by omega)
  have h1 := Int.emod_lt_of_pos a (show (0 : Int) < 12107 by omega)
  have h2 := Int.emod_nonneg b (show (12107 : Int) ≠ 0 by omega)
  have h3 := Int.emod_lt_of_pos b (show (0 : Int) < 12107 by omega)
  rw [show wrap64 ((a % 12107) - (b % 12107)) = (a % 12107) - (b % 12107) from by unfold wrap64; omega]
  exact congrArg some (Int.sub_emod a b 12107).symm
theorem spec_FpPow_l0 : ∀ (d k : Nat) (x n r : Int), d < k → 0 ≤ n → n < 2 ^ d → n ≤ 9223372036854775807 → 0 ≤ r → r < 12107 →
    spec_FpPow.l0 k n r x = some (r * x ^ n.toNat % 12107) := by
  intro d
  induction d with
  | zero =>
    intro k x n r hk h0 h1 _ hr0 hr1
    obtain ⟨k, rfl⟩ : ∃ j, k = j + 1 := ⟨k - 1, by omega⟩
    obtain rfl : n = 0 := by omega
    simp only [spec_FpPow.l0]
    rw [if_neg (by omega)]
    simp [Int.emod_eq_of_lt hr0 hr1]
  | succ d ih =>
    intro k x n r hk h0 h1 hb hr0 hr1
    obtain ⟨k, rfl⟩ : ∃ j, k = j + 1 := ⟨k - 1, by omega⟩
    rw [Int.pow_succ] at h1
    simp only [spec_FpPow.l0]
    by_cases hn : n > 0
    · rw [if_pos hn]
      have e2 : Int.tmod n 2 = n % 2 := Int.tmod_eq_emod_of_nonneg h0
      have e3 : wrap64 (Int.tdiv n 2) = n / 2 := by
        rw [Int.tdiv_eq_ediv_of_nonneg h0]; unfold wrap64; omega
      rw [e2, e3]
      simp only [spec_FpMul_eq, Option.bind_some]
      have q0 := Int.emod_nonneg (r * x) (show (12107 : Int) ≠ 0 by omega)
      have q1 := Int.emod_lt_of_pos (r * x) (show (0 : Int) < 12107 by omega)
      have hp : x ^ n.toNat = x ^ (n.toNat % 2) * (x * x) ^ (n / 2).toNat := by
        rw [pow_half x n.toNat]
        congr 2
        omega
      by_cases ho : n % 2 = 1
      · rw [if_pos ho, ih k _ _ _ (by omega) (by omega) (by omega) (by omega) q0 q1, hp, show n.toNat % 2 = 1 by omega]
        congr 1
        rw [Int.pow_succ, Int.pow_zero, Int.one_mul, emod_mul_l, ← emod_mul_r, emod_pow, emod_mul_r, Int.mul_assoc]
      · rw [if_neg ho, ih k _ _ _ (by omega) (by omega) (by omega) (by omega) hr0 hr1, hp, show n.toNat % 2 = 0 by omega]
        congr 1
        rw [Int.pow_zero, Int.one_mul, ← emod_mul_r, emod_pow, emod_mul_r]
    · rw [if_neg hn]
      obtain rfl : n = 0 := by omega
      simp [Int.emod_eq_of_lt hr0 hr1]
theorem spec_FpPow_eq (k : Nat) (hk : 63 < k) (a n : Int) (hb : n ≤ 9223372036854775807) : spec_FpPow.f k a n = some (if n < 0 then 0 else a ^ n.toNat % 12107) := by
  unfold spec_FpPow.f
  by_cases hn : n < 0
  · rw [if_pos hn, if_pos hn]
  · rw [if_neg hn, if_neg hn, spec_FpOf_eq]
    simp only [Option.bind_some]
    rw [spec_FpPow_l0 63 k _ n 1 hk (by omega) (by omega) hb (by omega) (by omega), Int.one_mul, emod_pow]
theorem spec_FpInv_eq (k : Nat) (hk : 63 < k) (a : Int) : spec_FpInv.f k a = some (a ^ 12105 % 12107) := by
  unfold spec_FpInv.f
  rw [spec_FpPow_eq k hk a 12105 (by omega)]
  rfl
theorem spec_l07Slope_eq (k : Nat) (hk : 63 < k) (x1 y1 : Int) (z1 : Bool) (x2 y2 : Int) (z2 : Bool) : spec_l07Slope.f k x1 y1 z1 x2 y2 z2 = some (slopePair (slope x1 y1 x2 y2)) := by
  unfold spec_l07Slope.f slope
  by_cases hx : x1 = x2
  · rw [if_pos hx, if_pos hx, spec_FpAdd_eq]
    simp only [Option.bind_some]
    by_cases hy : (y1 + y2) % 12107 = 0
    · rw [if_pos hy, if_pos hy]
      rfl
    · rw [if_neg hy, if_neg hy]
      simp only [spec_FpMul_eq, spec_FpAdd_eq, spec_FpInv_eq k hk, Option.bind_some, slopePair, tan_norm]
  · rw [if_neg hx, if_neg hx]
    simp only [spec_FpMul_eq, spec_FpSub_eq, spec_FpInv_eq k hk, Option.bind_some, slopePair, chord_norm]
theorem spec_l07Add_eq (k : Nat) (hk : 63 < k) (x1 y1 : Int) (z1 : Bool) (x2 y2 : Int) (z2 : Bool) : spec_l07Add.f k x1 y1 z1 x2 y2 z2 = some (addP x1 y1 z1 x2 y2 z2) := by
  unfold spec_l07Add.f addP
  cases z1 with
  | true => rfl
  | false =>
    cases z2 with
    | true => rfl
    | false =>
      rw [if_neg (by simp), if_neg (by simp), if_neg (by simp), if_neg (by simp), spec_l07Slope_eq k hk]
      simp only [Option.bind_some]
      cases slope x1 y1 x2 y2 with
      | none => rfl
      | some l =>
        simp only [slopePair]
        rw [if_pos trivial]
        simp only [spec_FpMul_eq, spec_FpSub_eq, Option.bind_some, third_norm]
theorem spec_PointNeg_eq (x y : Int) (z : Bool) : spec_PointNeg.f x y z = some (if z = true then (0, 0, true) else (x, (0 - y) % 12107, false)) := by
  unfold spec_PointNeg.f spec_l07Zero.f
  cases z
  · simp only [Bool.false_eq_true, if_false, spec_FpSub_eq, Option.bind_some]
  · simp
theorem spec_PointTimes_l0 : ∀ (d k : Nat) (n : Int) (p q : Int × Int × Bool), d + 70 < k → 0 ≤ n → n < 2 ^ d → n ≤ 100000 → spec_PointTimes.l0 k n p.1 p.2.1 p.2.2 q.1 q.2.1 q.2.2 = some (timesP d n p q) := by
  intro d
  induction d with
  | zero =>
    intro k n p q hk h0 h1 _
    obtain ⟨k, rfl⟩ : ∃ j, k = j + 1 := ⟨k - 1, by omega⟩
    simp only [spec_PointTimes.l0, timesP]
    rw [if_neg (by omega)]
  | succ d ih =>
    intro k n p q hk h0 h1 hb
    obtain ⟨k, rfl⟩ : ∃ j, k = j + 1 := ⟨k - 1, by omega⟩
    rw [Int.pow_succ] at h1
    simp only [spec_PointTimes.l0, timesP, spec_l07Add_eq k (show 63 < k by omega), Option.bind_some]
    have e2 : Int.tmod n 2 = n % 2 := Int.tmod_eq_emod_of_nonneg h0
    have e3 : wrap64 (Int.tdiv n 2) = n / 2 := by
      rw [Int.tdiv_eq_ediv_of_nonneg h0]; unfold wrap64; omega
    rw [e2, e3]
    clear e2 e3
    by_cases hn : n > 0
    · rw [if_pos hn, if_pos hn]
      by_cases ho : n % 2 = 1
      · rw [if_pos ho, if_pos ho]
        exact ih k _ (addP p.1 p.2.1 p.2.2 p.1 p.2.1 p.2.2) (addP q.1 q.2.1 q.2.2 p.1 p.2.1 p.2.2) (by omega) (by omega) (by omega) (by omega)
      · rw [if_neg ho, if_neg ho]
        exact ih k _ (addP p.1 p.2.1 p.2.2 p.1 p.2.1 p.2.2) q (by omega) (by omega) (by omega) (by omega)
    · rw [if_neg hn, if_neg hn]
theorem spec_InGroup_eq (k : Nat) (hk : 100 < k) (x y : Int) (z : Bool) : spec_InGroup.f k x y z = some (inGroup x y z) := by
  unfold spec_InGroup.f inGroup spec_PointTimes.f
  rw [spec_PointOk_eq]
  simp only [Option.bind_some]
  cases hc : okPoint x y z with
  | false => rfl
  | true =>
    obtain ⟨k, rfl⟩ : ∃ j, k = j + 1 := ⟨k - 1, by omega⟩
    rw [if_pos rfl, if_pos rfl, if_pos rfl, show Int.tmod 1009 12108 = 1009 from rfl, if_neg (by omega)]
    simp only [spec_PointTimes.j0, spec_l07Zero.f, Option.bind_some]
    rw [spec_PointTimes_l0 10 k 1009 (x, y, z) (0, 0, true) (by omega) (by omega) (by omega) (by omega)]
    rfl
theorem impl_remainder_eq (a m : Int) (h : 0 < m) (hm : m ≤ 1000000) : impl_remainder.f a m = some (a % m) := by
  unfold impl_remainder.f
  rw [if_neg (by omega), tm_eq a m h]
  have h0 := Int.emod_nonneg a (show m ≠ 0 by omega)
  have h1 := Int.emod_lt_of_pos a h
  by_cases hc : 0 ≤ a ∨ m ∣ a
  · rw [if_pos hc, if_neg (by omega)]
    simp
  · rw [if_neg hc, if_pos (by omega)]
    unfold wrap64
    congr 1
    omega
theorem impl_FpOf_eq (a : Int) : impl_FpOf.f a = some (a % 12107) := by
  unfold impl_FpOf.f
  rw [impl_remainder_eq a 12107 (by omega) (by omega)]
  rfl
theorem impl_FpMul_eq (a b : Int) : impl_FpMul.f a b = some ((a * b) % 12107) := by
  unfold impl_FpMul.f
  simp only [impl_FpOf_eq, Option.bind_some]
  have h0 := Int.emod_nonneg a (show (12107 : Int) ≠ 0 by omega)
  have h1 := Int.emod_lt_of_pos a (show (0 : Int) < 12107 by omega)
  have h2 := Int.emod_nonneg b (show (12107 : Int) ≠ 0 by omega)
  have h3 := Int.emod_lt_of_pos b (show (0 : Int) < 12107 by omega)
  rw [show wrap64 ((a % 12107) * (b % 12107)) = (a % 12107) * (b % 12107) from wrap_mul _ _ 12107 (by omega) h0 h1 h2 h3]
  exact congrArg some (Int.mul_emod a b 12107).symm
theorem impl_FpOk_eq (a : Int) : impl_FpOk.f a = some (decide (0 ≤ a ∧ a < 12107)) := by
  unfold impl_FpOk.f
  by_cases h : a ≥ 0
  · rw [if_pos h]
    (try simp only [Option.bind_some])
    congr 1
    rw [decide_eq_decide]
    omega
  · rw [if_neg h]
    (try simp only [Option.bind_some])
    congr 1
    symm
    rw [decide_eq_false_iff_not]
    omega
theorem impl_FpAdd_eq (a b : Int) : impl_FpAdd.f a b = some ((a + b) % 12107) := by
  unfold impl_FpAdd.f
  simp only [impl_FpOf_eq, Option.bind_some]
  have h0 := Int.emod_nonneg a (show (12107 : Int) ≠ 0 by omega)
  have h1 := Int.emod_lt_of_pos a (show (0 : Int) < 12107 by omega)
  have h2 := Int.emod_nonneg b (show (12107 : Int) ≠ 0 by omega)
  have h3 := Int.emod_lt_of_pos b (show (0 : Int) < 12107 by omega)
  rw [show wrap64 ((a % 12107) + (b % 12107)) = (a % 12107) + (b % 12107) from by unfold wrap64; omega]
  exact congrArg some (Int.add_emod a b 12107).symm
theorem impl_curveAt_eq (x : Int) : impl_curveAt.f x = some ((x * x * x + x) % 12107) := by
  unfold impl_curveAt.f
  simp only [impl_FpMul_eq, impl_FpAdd_eq, Option.bind_some, Int.emod_add_emod, emod_mul_l]
  rw [Int.add_emod, emod_mul_l, ← Int.add_emod]
theorem impl_PointOk_eq (x y : Int) (z : Bool) : impl_PointOk.f x y z = some (okPoint x y z) := by
  unfold impl_PointOk.f okPoint
  cases z
  · simp only [Bool.false_eq_true, if_false, impl_FpOk_eq, impl_FpMul_eq, impl_curveAt_eq, Option.bind_some, decide_eq_true_eq]
    by_cases hx : 0 ≤ x ∧ x < 12107
    · rw [if_pos hx]
      by_cases hy : 0 ≤ y ∧ y < 12107
      · rw [if_pos hy]
        congr 1
        rw [Bool.eq_iff_iff, beq_iff_eq, decide_eq_true_eq]
        exact ⟨fun h => ⟨hx.1, hx.2, hy.1, hy.2, h⟩, fun h => h.2.2.2.2⟩
      · rw [if_neg hy]
        congr 1
        symm
        rw [decide_eq_false_iff_not]
        exact fun h => hy ⟨h.2.2.1, h.2.2.2.1⟩
    · rw [if_neg hx]
      congr 1
      symm
      rw [decide_eq_false_iff_not]
      exact fun h => hx ⟨h.1, h.2.1⟩
  · simp only [if_true]
    by_cases hx : x = 0
    · rw [if_pos hx]
      congr 1
      rw [Bool.eq_iff_iff, beq_iff_eq, decide_eq_true_eq]
      exact ⟨fun h => ⟨hx, h⟩, fun h => h.2⟩
    · rw [if_neg hx]
      congr 1
      symm
      rw [decide_eq_false_iff_not]
      exact fun h => hx h.1
theorem impl_FpSub_eq (a b : Int) : impl_FpSub.f a b = some ((a - b) % 12107) := by
  unfold impl_FpSub.f
  simp only [impl_FpOf_eq, Option.bind_some]
  have h0 := Int.emod_nonneg a (show (12107 : Int) ≠ 0 by omega)
  have h1 := Int.emod_lt_of_pos a (show (0 : Int) < 12107 by omega)
  have h2 := Int.emod_nonneg b (show (12107 : Int) ≠ 0 by omega)
  have h3 := Int.emod_lt_of_pos b (show (0 : Int) < 12107 by omega)
  rw [show wrap64 ((a % 12107) - (b % 12107)) = (a % 12107) - (b % 12107) from by unfold wrap64; omega]
  exact congrArg some (Int.sub_emod a b 12107).symm
theorem impl_powerMod_l0 (m : Int) (hm : 0 < m) (hm2 : m ≤ 100000) : ∀ (d k : Nat) (x n r : Int), d < k → 0 ≤ n → n < 2 ^ d → n ≤ 9223372036854775807 → 0 ≤ x → x < m → 0 ≤ r → r < m →
    impl_powerMod.l0 k x n m r = some (r * x ^ n.toNat % m) := by
  intro d
  induction d with
  | zero =>
    intro k x n r hk h0 h1 _ _ _ hr0 hr1
    obtain ⟨k, rfl⟩ : ∃ j, k = j + 1 := ⟨k - 1, by omega⟩
    obtain rfl : n = 0 := by omega
    simp only [impl_powerMod.l0]
    rw [if_neg (by omega)]
    simp [Int.emod_eq_of_lt hr0 hr1]
  | succ d ih =>
    intro k x n r hk h0 h1 hb hx0 hx1 hr0 hr1
    obtain ⟨k, rfl⟩ : ∃ j, k = j + 1 := ⟨k - 1, by omega⟩
    rw [Int.pow_succ] at h1
    simp only [impl_powerMod.l0]
    by_cases hn : n > 0
    · have hm0 : ¬ m = 0 := by omega
      rw [if_pos hn]
      have e2 : Int.tmod n 2 = n % 2 := Int.tmod_eq_emod_of_nonneg h0
      have e3 : wrap64 (Int.tdiv n 2) = n / 2 := by
        rw [Int.tdiv_eq_ediv_of_nonneg h0]; unfold wrap64; omega
      have sq : Int.tmod (wrap64 (x * x)) m = x * x % m := by
        rw [wrap_mul x x m (by omega) hx0 hx1 hx0 hx1, Int.tmod_eq_emod_of_nonneg (Int.mul_nonneg hx0 hx0)]
      have rx : Int.tmod (wrap64 (r * x)) m = r * x % m := by
        rw [wrap_mul r x m (by omega) hr0 hr1 hx0 hx1, Int.tmod_eq_emod_of_nonneg (Int.mul_nonneg hr0 hx0)]
      rw [e2, e3, sq, rx]
      have p0 := Int.emod_nonneg (x * x) (show m ≠ 0 by omega)
      have p1 := Int.emod_lt_of_pos (x * x) hm
      have q0 := Int.emod_nonneg (r * x) (show m ≠ 0 by omega)
      have q1 := Int.emod_lt_of_pos (r * x) hm
      have hp : x ^ n.toNat = x ^ (n.toNat % 2) * (x * x) ^ (n / 2).toNat := by
        rw [pow_half x n.toNat]
        congr 2
        omega
      by_cases ho : n % 2 = 1
      · rw [if_pos ho, if_neg hm0, ih k _ _ _ (by omega) (by omega) (by omega) (by omega) p0 p1 q0 q1, hp, show n.toNat % 2 = 1 by omega]
        congr 1
        rw [Int.pow_succ, Int.pow_zero, Int.one_mul, emod_mul_l, ← emod_mul_r, emod_pow, emod_mul_r, Int.mul_assoc]
      · rw [if_neg ho, if_neg hm0, ih k _ _ _ (by omega) (by omega) (by omega) (by omega) p0 p1 hr0 hr1, hp, show n.toNat % 2 = 0 by omega]
        congr 1
        rw [Int.pow_zero, Int.one_mul, ← emod_mul_r, emod_pow, emod_mul_r]
    · rw [if_neg hn]
      obtain rfl : n = 0 := by omega
      simp [Int.emod_eq_of_lt hr0 hr1]
theorem impl_powerMod_eq (k : Nat) (hk : 63 < k) (a n m : Int) (hm : 1 < m) (hm2 : m ≤ 100000) (h0 : 0 ≤ n) (hb : n ≤ 9223372036854775807) : impl_powerMod.f k a n m = some (a ^ n.toNat % m) := by
  unfold impl_powerMod.f
  rw [impl_remainder_eq a m (by omega) (by omega)]
  simp only [Option.bind_some]
  rw [impl_powerMod_l0 m (by omega) hm2 63 k _ n 1 hk h0 (by omega) hb (Int.emod_nonneg a (by omega)) (Int.emod_lt_of_pos a (by omega)) (by omega) (by omega)]
  rw [Int.one_mul, emod_pow]
theorem impl_FpInv_eq (k : Nat) (hk : 63 < k) (a : Int) : impl_FpInv.f k a = some (a ^ 12105 % 12107) := by
  unfold impl_FpInv.f
  rw [impl_powerMod_eq k hk a 12105 12107 (by omega) (by omega) (by omega) (by omega)]
  rfl
theorem impl_slopeOf_eq (k : Nat) (hk : 64 < k) (x1 y1 : Int) (z1 : Bool) (x2 y2 : Int) (z2 : Bool) (A : On x1 y1) (B : On x2 y2) : impl_slopeOf.f k x1 y1 z1 x2 y2 z2 = some (slopePair (slope x1 y1 x2 y2)) := by
  obtain ⟨k, rfl⟩ : ∃ j, k = j + 1 := ⟨k - 1, by omega⟩
  unfold impl_slopeOf.f slope
  by_cases hx : x1 = x2
  · subst hx
    have hu := upright_iff A B
    rw [if_pos rfl, if_pos rfl]
    by_cases hy : y1 = y2
    · rw [if_pos hy]
      simp only [impl_slopeOf.j0]
      by_cases hz : y1 = 0
      · rw [if_pos (by simp [hz]), if_pos (hu.2 (fun q => q.2 hz))]
        rfl
      · rw [if_neg (by simp [hz]), if_neg (fun q => hu.1 q ⟨hy, hz⟩)]
        simp only [impl_FpMul_eq, impl_FpAdd_eq, impl_FpInv_eq k (show 63 < k by omega), Option.bind_some, slopePair, tan_norm]
    · rw [if_neg hy, if_pos (hu.2 (fun q => hy q.1))]
      simp only [impl_slopeOf.j0]
      rfl
  · rw [if_neg hx, if_neg hx]
    simp only [impl_FpMul_eq, impl_FpSub_eq, impl_FpInv_eq (k + 1) (show 63 < k + 1 by omega), Option.bind_some, slopePair, chord_norm]
theorem impl_add_eq (k : Nat) (hk : 64 < k) (x1 y1 : Int) (z1 : Bool) (x2 y2 : Int) (z2 : Bool) (h1 : okPoint x1 y1 z1 = true) (h2 : okPoint x2 y2 z2 = true) : impl_add.f k x1 y1 z1 x2 y2 z2 = some (addP x1 y1 z1 x2 y2 z2) := by
  unfold impl_add.f addP
  cases z1 with
  | true => rfl
  | false =>
    cases z2 with
    | true => rfl
    | false =>
      rw [if_neg (by simp), if_neg (by simp), if_neg (by simp), if_neg (by simp), impl_slopeOf_eq k hk _ _ _ _ _ _ (okPoint_on h1) (okPoint_on h2)]
      simp only [Option.bind_some]
      cases slope x1 y1 x2 y2 with
      | none => rfl
      | some l =>
        simp only [slopePair]
        rw [if_pos trivial]
        simp only [impl_FpMul_eq, impl_FpSub_eq, Option.bind_some, third_norm]
theorem impl_PointTimes_l0 : ∀ (d k : Nat) (n : Int) (p q : Int × Int × Bool), d + 70 < k → 0 ≤ n → n < 2 ^ d → n ≤ 100000 → okPoint p.1 p.2.1 p.2.2 = true → okPoint q.1 q.2.1 q.2.2 = true →
    impl_PointTimes.l0 k n p.1 p.2.1 p.2.2 q.1 q.2.1 q.2.2 = some (timesP d n p q) := by
  intro d
  induction d with
  | zero =>
    intro k n p q hk h0 h1 _ _ _
    obtain ⟨k, rfl⟩ : ∃ j, k = j + 1 := ⟨k - 1, by omega⟩
    simp only [impl_PointTimes.l0, timesP]
    rw [if_neg (by omega)]
  | succ d ih =>
    intro k n p q hk h0 h1 hb hp hq
    obtain ⟨k, rfl⟩ : ∃ j, k = j + 1 := ⟨k - 1, by omega⟩
    rw [Int.pow_succ] at h1
    simp only [impl_PointTimes.l0, timesP, impl_add_eq k (show 64 < k by omega) _ _ _ _ _ _ hp hp, impl_add_eq k (show 64 < k by omega) _ _ _ _ _ _ hq hp, Option.bind_some]
    have e2 : Int.tmod n 2 = n % 2 := Int.tmod_eq_emod_of_nonneg h0
    have e3 : wrap64 (Int.tdiv n 2) = n / 2 := by
      rw [Int.tdiv_eq_ediv_of_nonneg h0]; unfold wrap64; omega
    rw [e2, e3]
    clear e2 e3
    have hpp := addP_ok _ _ _ _ _ _ hp hp
    by_cases hn : n > 0
    · rw [if_pos hn, if_pos hn]
      by_cases ho : n % 2 = 1
      · rw [if_pos ho, if_pos ho]
        exact ih k _ (addP p.1 p.2.1 p.2.2 p.1 p.2.1 p.2.2) (addP q.1 q.2.1 q.2.2 p.1 p.2.1 p.2.2) (by omega) (by omega) (by omega) (by omega) hpp (addP_ok _ _ _ _ _ _ hq hp)
      · rw [if_neg ho, if_neg ho]
        exact ih k _ (addP p.1 p.2.1 p.2.2 p.1 p.2.1 p.2.2) q (by omega) (by omega) (by omega) (by omega) hpp hq
    · rw [if_neg hn, if_neg hn]
theorem impl_InGroup_eq (k : Nat) (hk : 100 < k) (x y : Int) (z : Bool) : impl_InGroup.f k x y z = some (inGroup x y z) := by
  unfold impl_InGroup.f inGroup impl_PointTimes.f
  rw [impl_PointOk_eq]
  simp only [Option.bind_some]
  cases hc : okPoint x y z with
  | false => rfl
  | true =>
    rw [if_pos rfl, if_pos rfl, if_pos rfl, impl_remainder_eq 1009 12108 (by omega) (by omega), show (1009 : Int) % 12108 = 1009 from rfl]
    simp only [Option.bind_some]
    rw [impl_PointTimes_l0 10 k 1009 (x, y, z) (0, 0, true) (by omega) (by omega) (by omega) (by omega) hc rfl]
    rfl
theorem FnExactInGroup : laws_FnExactInGroup.Pure := by
  intro x y z _ _
  refine ⟨200, ?_⟩
  unfold laws_FnExactInGroup.f laws_toPoint.f
  simp only [Option.bind_some, spec_InGroup_eq 200 (by omega), impl_InGroup_eq 200 (by omega)]
  simp

end Go.Proofs.Ytfigfpfgeoadbaa.Pure
