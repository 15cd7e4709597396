/- Proved: ReadPoint of the program and of the reference agree at every text of at most 2^20 bytes (the law asks no more). Conditions: none. -/
import Derived.Test.YtfigfpfgeoadbaaQFnExactReadPointx5
import Derived.Test.YtfigfpfgeoadbaaMod
import Derived.Test.YtfigfpfgeoadbaaThree
set_option linter.unusedVariables false
set_option linter.unusedSimpArgs false
namespace Go.Proofs.Ytfigfpfgeoadbaa.Pure
open Go.RowKit Go.Proofs.Ytfigfpfgeoadbaa.PFnExactReadPoint Go.Proofs.YtfigfpfgeoadbaaW.PrintWords Go.Proofs.YtfigfpfgeoadbaaW.PrintLast Go.Proofs.YtfigfpfgeoadbaaW.PrintMore
open Go.Proofs.Ytfigfpfgeoadbaa.M

theorem spec_FpOf_eq (a : Int) : spec_FpOf.f a = some (a % 12107) := by
  unfold spec_FpOf.f
  rw [tm_eq a 12107 (by omega)]
  have h0 := Int.emod_nonneg a (show (12107 : Int) ≠ 0 by omega)
  have h1 := Int.emod_lt_of_pos a (show (0 : Int) < 12107 by omega)
  by_cases h : 0 ≤ a ∨ (12107 : Int) ∣ a
  · rw [if_pos h, if_neg (by omega)]
    simp
  · rw [if_neg h, if_pos (by omega)]
    unfold wrap64
    congr 1
    omega
theorem spec_FpMul_eq (a b : Int) : spec_FpMul.f a b = some ((a * b) % 12107) := by
  unfold spec_FpMul.f
  simp only [spec_FpOf_eq, Option.bind_some]
  have h0 := Int.emod_nonneg a (show (12107 : Int) ≠ 0 by omega)
  have h1 := Int.emod_lt_of_pos a (show (0 : Int) < 12107 by omega)
  have h2 := Int.emod_nonneg b (show (12107 : Int) ≠ 0 by omega)
  have h3 := Int.emod_lt_of_pos b (show (0 : Int) < 12107 by omega)
  rw [show wrap64 ((a % 12107) * (b % 12107)) = (a % 12107) * (b % 12107) from wrap_mul _ _ 12107 (by omega) h0 h1 h2 h3]
  exact congrArg some (Int.mul_emod a b 12107).symm
theorem spec_FpPow_l0 : ∀ (d k : Nat) (x n r : Int), d < k → 0 ≤ n → n < 2 ^ d → n ≤ 9223372036854775807 → 0 ≤ r → r < 12107 →
    spec_FpPow.l0 k n r x = some (r * x ^ n.toNat % 12107) := by
  intro d
  induction d with
  | zero =>
    intro k x n r hk h0 h1 _ hr0 hr1
    obtain ⟨k, rfl⟩ : ∃ j, k = j + 1 := ⟨k - 1, by omega⟩
    obtain rfl : n = 0 := by omega
    simp only [spec_FpPow.l0]
    rw [if_neg (by omega)]
    simp [Int.emod_eq_of_lt hr0 hr1]
  | succ d ih =>
    intro k x n r hk h0 h1 hb hr0 hr1
    obtain ⟨k, rfl⟩ : ∃ j, k = j + 1 := ⟨k - 1, by omega⟩
    rw [Int.pow_succ] at h1
    simp only [spec_FpPow.l0]
    by_cases hn : n > 0
    · rw [if_pos hn]
      have e2 : Int.tmod n 2 = n % 2 := Int.tmod_eq_emod_of_nonneg h0
      have e3 : wrap64 (Int.tdiv n 2) = n / 2 := by
        rw [Int.tdiv_eq_ediv_of_nonneg h0]; unfold wrap64; omega
      rw [e2, e3]
      simp only [spec_FpMul_eq, Option.bind_some]
      have q0 := Int.emod_nonneg (r * x) (show (12107 : Int) ≠ 0 by omega)
      have q1 := Int.emod_lt_of_pos (r * x) (show (0 : Int) < 12107 by omega)
      have hp : x ^ n.toNat = x ^ (n.toNat % 2) * (x * x) ^ (n / 2).toNat := by
        rw [pow_half x n.toNat]
        congr 2
        omega
      by_cases ho : n % 2 = 1
      · rw [if_pos ho, ih k _ _ _ (by omega) (by omega) (by omega) (by omega) q0 q1, hp, show n.toNat % 2 = 1 by omega]
        congr 1
        rw [Int.pow_succ, Int.pow_zero, Int.one_mul, emod_mul_l, ← emod_mul_r, emod_pow, emod_mul_r, Int.mul_assoc]
      · rw [if_neg ho, ih k _ _ _ (by omega) (by omega) (by omega) (by omega) hr0 hr1, hp, show n.toNat % 2 = 0 by omega]
        congr 1
        rw [Int.pow_zero, Int.one_mul, ← emod_mul_r, emod_pow, emod_mul_r]
    · rw [if_neg hn]
      obtain rfl : n = 0 := by omega
      simp [Int.emod_eq_of_lt hr0 hr1]
theorem spec_FpPow_eq (k : Nat) (hk : 63 < k) (a n : Int) (hb : n ≤ 9223372036854775807) : spec_FpPow.f k a n = some (if n < 0 then 0 else a ^ n.toNat % 12107) := by
  unfold spec_FpPow.f
  by_cases hn : n < 0
  · rw [if_pos hn, if_pos hn]
  · rw [if_neg hn, if_neg hn, spec_FpOf_eq]
    simp only [Option.bind_some]
    rw [spec_FpPow_l0 63 k _ n 1 hk (by omega) (by omega) hb (by omega) (by omega), Int.one_mul, emod_pow]
theorem spec_FpSub_eq (a b : Int) : spec_FpSub.f a b = some ((a - b) % 12107) := by
  unfold spec_FpSub.f
  simp only [spec_FpOf_eq, Option.bind_some]
  have h0 := Int.emod_nonneg a (show (12107 : Int) ≠ 0 by omega)
  have h1 := Int.emod_lt_of_pos a (show (0 : Int) < 12107 by omega)
  have h2 := Int.emod_nonneg b (show (12107 : Int) ≠ 0 by omega)
  have h3 := Int.emod_lt_of_pos b (show (0 : Int) < 12107 by omega)
  rw [show wrap64 ((a % 12107) - (b % 12107)) = (a % 12107) - (b % 12107) from by unfold wrap64; omega]
  exact congrArg some (Int.sub_emod a b 12107).symm
theorem spec_FpRoot_eq (k : Nat) (hk : 63 < k) (a : Int) : spec_FpRoot.f k a = some (rootOf a) := by
  unfold spec_FpRoot.f rootOf
  rw [spec_FpPow_eq k hk a 3027 (by omega)]
  simp only [spec_FpMul_eq, spec_FpSub_eq, spec_FpOf_eq, Option.bind_some, show ¬ (3027 : Int) < 0 by omega, if_false, show (3027 : Int).toNat = 3027 from rfl]
  split
  · rename_i h
    have h0 := Int.emod_nonneg (a ^ 3027) (show (12107 : Int) ≠ 0 by omega)
    have h1 := Int.emod_lt_of_pos (a ^ 3027) (show (0 : Int) < 12107 by omega)
    split <;> rfl
  · rfl
theorem spec_FpOk_eq (a : Int) : spec_FpOk.f a = some (decide (0 ≤ a ∧ a < 12107)) := by
  unfold spec_FpOk.f spec_l01In.f
  by_cases h : a ≥ 0
  · rw [if_pos h]
    (try simp only [Option.bind_some])
    congr 1
    rw [decide_eq_decide]
    omega
  · rw [if_neg h]
    (try simp only [Option.bind_some])
    congr 1
    symm
    rw [decide_eq_false_iff_not]
    omega
theorem spec_FpAdd_eq (a b : Int) : spec_FpAdd.f a b = some ((a + b) % 12107) := by
  unfold spec_FpAdd.f
  simp only [spec_FpOf_eq, Option.bind_some]
  have h0 := Int.emod_nonneg a (show (12107 : Int) ≠ 0 by omega)
  have h1 := Int.emod_lt_of_pos a (show (0 : Int) < 12107 by omega)
  have h2 := Int.emod_nonneg b (show (12107 : Int) ≠ 0 by omega)
  have h3 := Int.emod_lt_of_pos b (show (0 : Int) < 12107 by omega)
  rw [show wrap64 ((a % 12107) + (b % 12107)) = (a % 12107) + (b % 12107) from by unfold wrap64; omega]
  exact congrArg some (Int.add_emod a b 12107).symm
theorem spec_l07Right_eq (x : Int) : spec_l07Right.f x = some ((x * x * x + x) % 12107) := by
  unfold spec_l07Right.f
  simp only [spec_FpMul_eq, spec_FpAdd_eq, Option.bind_some, Int.emod_add_emod, emod_mul_l]
  rw [Int.add_emod, emod_mul_l, ← Int.add_emod]
theorem spec_PointOk_eq (x y : Int) (z : Bool) : spec_PointOk.f x y z = some (okPoint x y z) := by
  unfold spec_PointOk.f okPoint
  cases z
  · simp only [Bool.false_eq_true, if_false, spec_FpOk_eq, spec_FpMul_eq, spec_l07Right_eq, Option.bind_some, decide_eq_true_eq]
    by_cases hx : 0 ≤ x ∧ x < 12107
    · rw [if_pos hx]
      by_cases hy : 0 ≤ y ∧ y < 12107
      · rw [if_pos hy]
        congr 1
        rw [Bool.eq_iff_iff, beq_iff_eq, decide_eq_true_eq]
        exact ⟨fun h => ⟨hx.1, hx.2, hy.1, hy.2, h⟩, fun h => h.2.2.2.2⟩
      · rw [if_neg hy]
        congr 1
        symm
        rw [decide_eq_false_iff_not]
        exact fun h => hy ⟨h.2.2.1, h.2.2.2.1⟩
    · rw [if_neg hx]
      congr 1
      symm
      rw [decide_eq_false_iff_not]
      exact fun h => hx ⟨h.1, h.2.1⟩
  · simp only [if_true]
    by_cases hx : x = 0
    · rw [if_pos hx]
      congr 1
      rw [Bool.eq_iff_iff, beq_iff_eq, decide_eq_true_eq]
      exact ⟨fun h => ⟨hx, h⟩, fun h => h.2⟩
    · rw [if_neg hx]
      congr 1
      symm
      rw [decide_eq_false_iff_not]
      exact fun h => hx h.1
theorem spec_PointText_eq (x y : Int) (z : Bool) : spec_PointText.f x y z = some (pointText x y z) := by
  unfold spec_PointText.f pointText
  rw [spec_PointOk_eq]
  simp only [Option.bind_some]
  cases okPoint x y z <;> cases z <;> simp
theorem spec_ReadPoint_eq (k : Nat) (hk : 100 < k) (t : ByteArray) : spec_ReadPoint.f k t = some (readPointOf t) := by
  unfold spec_ReadPoint.f readPointOf
  obtain ⟨k, rfl⟩ : ∃ j, k = j + 1 := ⟨k - 1, by omega⟩
  simp only [spec_ReadPoint.j0]
  by_cases hs : t.size = 3
  · obtain ⟨a, b, c, ht, hl, h0, h1, h2⟩ := size_three t hs
    have w : ∀ n : Int, -10 ≤ n → n < 1000000 → wrap64 n = n := by
      intro n q1 q2
      unfold wrap64
      omega
    have ex : wrap64 (wrap64 (wrap64 (wrap64 (bt t 0) * 256) + wrap64 (bt t 1)) - 1) = bt t 0 * 256 + bt t 1 - 1 := by
      rw [h0, h1, w (a : Int) (by omega) (by omega), w (b : Int) (by omega) (by omega), w ((a : Int) * 256) (by omega) (by omega), w ((a : Int) * 256 + b) (by omega) (by omega), w ((a : Int) * 256 + b - 1) (by omega) (by omega)]
    have e2 : wrap64 (bt t 2) = bt t 2 := by
      rw [h2, w (c : Int) (by omega) (by omega)]
    have hs3 : (t.size : Int) = 3 := by omega
    rw [if_pos hs3, if_neg (show ¬ t.size ≠ 3 from fun q => q hs), ex, e2]
    clear ex e2 w
    have hx : bt t 0 * 256 + bt t 1 - 1 = (a : Int) * 256 + b - 1 := by rw [h0, h1]
    by_cases hz : byteNs t = [0, 0, 0]
    · rw [if_pos ((zeros_iff t).2 hz), if_pos hz]
      rfl
    rw [if_neg (fun q => hz ((zeros_iff t).1 q)), if_neg hz, if_pos (by omega), if_pos (by omega), spec_FpOk_eq]
    simp only [Option.bind_some, spec_l07Right_eq, spec_FpRoot_eq k (show 63 < k by omega), spec_PointText_eq, spec_FpSub_eq]
    generalize hX : bt t 0 * 256 + bt t 1 - 1 = X
    generalize rootOf ((X * X * X + X) % 12107) = R
    obtain ⟨y, ok⟩ := R
    dsimp only
    by_cases hok : 0 ≤ X ∧ X < 12107
    · rw [if_pos (decide_eq_true hok), if_pos (by omega)]
      by_cases hb : 1 < bt t 2
      · rw [if_pos (decide_eq_true hb), if_pos (Or.inr hb)]
      · rw [if_neg (c := decide (bt t 2 > 1) = true) (by simp only [decide_eq_true_eq]; exact hb), if_neg (c := ¬ (0 ≤ X ∧ X < 12107) ∨ 1 < bt t 2) (fun q => q.elim (fun q => q hok) hb)]
        cases ok with
        | false => rfl
        | true =>
          show (if 2 < (t.size : Int) then _ else _) = _
          rw [if_pos (by omega), if_neg (c := true = false) (by decide)]
          by_cases hy : Int.tmod y 2 = bt t 2
          · rw [if_pos hy, if_pos hy]
            split <;> rfl
          · rw [if_neg hy, if_neg hy]
            split <;> rfl
    · rw [if_neg (by simp only [decide_eq_true_eq]; exact hok), if_pos trivial, if_pos (c := ¬ (0 ≤ X ∧ X < 12107) ∨ 1 < bt t 2) (Or.inl hok)]
  · rw [if_neg (by omega), if_pos hs]
theorem impl_remainder_eq (a m : Int) (h : 0 < m) (hm : m ≤ 1000000) : impl_remainder.f a m = some (a % m) := by
  unfold impl_remainder.f
  rw [if_neg (by omega), tm_eq a m h]
  have h0 := Int.emod_nonneg a (show m ≠ 0 by omega)
  have h1 := Int.emod_lt_of_pos a h
  by_cases hc : 0 ≤ a ∨ m ∣ a
  · rw [if_pos hc, if_neg (by omega)]
    simp
  · rw [if_neg hc, if_pos (by omega)]
    unfold wrap64
    congr 1
    omega
theorem impl_FpOf_eq (a : Int) : impl_FpOf.f a = some (a % 12107) := by
  unfold impl_FpOf.f
  rw [impl_remainder_eq a 12107 (by omega) (by omega)]
  rfl
theorem impl_FpMul_eq (a b : Int) : impl_FpMul.f a b = some ((a * b) % 12107) := by
  unfold impl_FpMul.f
  simp only [impl_FpOf_eq, Option.bind_some]
  have h0 := Int.emod_nonneg a (show (12107 : Int) ≠ 0 by omega)
  have h1 := Int.emod_lt_of_pos a (show (0 : Int) < 12107 by omega)
  have h2 := Int.emod_nonneg b (show (12107 : Int) ≠ 0 by omega)
  have h3 := Int.emod_lt_of_pos b (show (0 : Int) < 12107 by omega)
  rw [show wrap64 ((a % 12107) * (b % 12107)) = (a % 12107) * (b % 12107) from wrap_mul _ _ 12107 (by omega) h0 h1 h2 h3]
  exact congrArg some (Int.mul_emod a b 12107).symm
theorem impl_powerMod_l0 (m : Int) (hm : 0 < m) (hm2 : m ≤ 100000) : ∀ (d k : Nat) (x n r : Int), d < k → 0 ≤ n → n < 2 ^ d → n ≤ 9223372036854775807 → 0 ≤ x → x < m → 0 ≤ r → r < m →
    impl_powerMod.l0 k x n m r = some (r * x ^ n.toNat % m) := by
  intro d
  induction d with
  | zero =>
    intro k x n r hk h0 h1 _ _ _ hr0 hr1
    obtain ⟨k, rfl⟩ : ∃ j, k = j + 1 := ⟨k - 1, by omega⟩
    obtain rfl : n = 0 := by omega
    simp only [impl_powerMod.l0]
    rw [if_neg (by omega)]
    simp [Int.emod_eq_of_lt hr0 hr1]
  | succ d ih =>
    intro k x n r hk h0 h1 hb hx0 hx1 hr0 hr1
    obtain ⟨k, rfl⟩ : ∃ j, k = j + 1 := ⟨k - 1, by omega⟩
    rw [Int.pow_succ] at h1
    simp only [impl_powerMod.l0]
    by_cases hn : n > 0
    · have hm0 : ¬ m = 0 := by omega
      rw [if_pos hn]
      have e2 : Int.tmod n 2 = n % 2 := Int.tmod_eq_emod_of_nonneg h0
      have e3 : wrap64 (Int.tdiv n 2) = n / 2 := by
        rw [Int.tdiv_eq_ediv_of_nonneg h0]; unfold wrap64; omega
      have sq : Int.tmod (wrap64 (x * x)) m = x * x % m := by
        rw [wrap_mul x x m (by omega) hx0 hx1 hx0 hx1, Int.tmod_eq_emod_of_nonneg (Int.mul_nonneg hx0 hx0)]
      have rx : Int.tmod (wrap64 (r * x)) m = r * x % m := by
        rw [wrap_mul r x m (by omega) hr0 hr1 hx0 hx1, Int.tmod_eq_emod_of_nonneg (Int.mul_nonneg hr0 hx0)]
      rw [e2, e3, sq, rx]
      have p0 := Int.emod_nonneg (x * x) (show m ≠ 0 by omega)
      have p1 := Int.emod_lt_of_pos (x * x) hm
      have q0 := Int.emod_nonneg (r * x) (show m ≠ 0 by omega)
      have q1 := Int.emod_lt_of_pos (r * x) hm
      have hp : x ^ n.toNat = x ^ (n.toNat % 2) * (x * x) ^ (n / 2).toNat := by
        rw [pow_half x n.toNat]
        congr 2
        omega
      by_cases ho : n % 2 = 1
      · rw [if_pos ho, if_neg hm0, ih k _ _ _ (by omega) (by omega) (by omega) (by omega) p0 p1 q0 q1, hp, show n.toNat % 2 = 1 by omega]
        congr 1
        rw [Int.pow_succ, Int.pow_zero, Int.one_mul, emod_mul_l, ← emod_mul_r, emod_pow, emod_mul_r, Int.mul_assoc]
      · rw [if_neg ho, if_neg hm0, ih k _ _ _ (by omega) (by omega) (by omega) (by omega) p0 p1 hr0 hr1, hp, show n.toNat % 2 = 0 by omega]
        congr 1
        rw [Int.pow_zero, Int.one_mul, ← emod_mul_r, emod_pow, emod_mul_r]
    · rw [if_neg hn]
      obtain rfl : n = 0 := by omega
      simp [Int.emod_eq_of_lt hr0 hr1]
theorem impl_powerMod_eq (k : Nat) (hk : 63 < k) (a n m : Int) (hm : 1 < m) (hm2 : m ≤ 100000) (h0 : 0 ≤ n) (hb : n ≤ 9223372036854775807) : impl_powerMod.f k a n m = some (a ^ n.toNat % m) := by
  unfold impl_powerMod.f
  rw [impl_remainder_eq a m (by omega) (by omega)]
  simp only [Option.bind_some]
  rw [impl_powerMod_l0 m (by omega) hm2 63 k _ n 1 hk h0 (by omega) hb (Int.emod_nonneg a (by omega)) (Int.emod_lt_of_pos a (by omega)) (by omega) (by omega)]
  rw [Int.one_mul, emod_pow]
theorem impl_FpRoot_eq (k : Nat) (hk : 63 < k) (a : Int) : impl_FpRoot.f k a = some (rootOf a) := by
  unfold impl_FpRoot.f rootOf
  rw [impl_powerMod_eq k hk a 3027 12107 (by omega) (by omega) (by omega) (by omega)]
  simp only [impl_FpMul_eq, impl_FpOf_eq, Option.bind_some, show (3027 : Int).toNat = 3027 from rfl]
  have h0 := Int.emod_nonneg (a ^ 3027) (show (12107 : Int) ≠ 0 by omega)
  have h1 := Int.emod_lt_of_pos (a ^ 3027) (show (0 : Int) < 12107 by omega)
  have e : wrap64 (-(a ^ 3027 % 12107)) = 0 - a ^ 3027 % 12107 := by
    unfold wrap64
    omega
  rw [e]
  split
  · unfold mn
    split <;> rfl
  · rfl
theorem impl_FpAdd_eq (a b : Int) : impl_FpAdd.f a b = some ((a + b) % 12107) := by
  unfold impl_FpAdd.f
  simp only [impl_FpOf_eq, Option.bind_some]
  have h0 := Int.emod_nonneg a (show (12107 : Int) ≠ 0 by omega)
  have h1 := Int.emod_lt_of_pos a (show (0 : Int) < 12107 by omega)
  have h2 := Int.emod_nonneg b (show (12107 : Int) ≠ 0 by omega)
  have h3 := Int.emod_lt_of_pos b (show (0 : Int) < 12107 by omega)
  rw [show wrap64 ((a % 12107) + (b % 12107)) = (a % 12107) + (b % 12107) from by unfold wrap64; omega]
  exact congrArg some (Int.add_emod a b 12107).symm
theorem impl_curveAt_eq (x : Int) : impl_curveAt.f x = some ((x * x * x + x) % 12107) := by
  unfold impl_curveAt.f
  simp only [impl_FpMul_eq, impl_FpAdd_eq, Option.bind_some, Int.emod_add_emod, emod_mul_l]
  rw [Int.add_emod, emod_mul_l, ← Int.add_emod]
theorem impl_FpSub_eq (a b : Int) : impl_FpSub.f a b = some ((a - b) % 12107) := by
  unfold impl_FpSub.f
  simp only [impl_FpOf_eq, Option.bind_some]
  have h0 := Int.emod_nonneg a (show (12107 : Int) ≠ 0 by omega)
  have h1 := Int.emod_lt_of_pos a (show (0 : Int) < 12107 by omega)
  have h2 := Int.emod_nonneg b (show (12107 : Int) ≠ 0 by omega)
  have h3 := Int.emod_lt_of_pos b (show (0 : Int) < 12107 by omega)
  rw [show wrap64 ((a % 12107) - (b % 12107)) = (a % 12107) - (b % 12107) from by unfold wrap64; omega]
  exact congrArg some (Int.sub_emod a b 12107).symm
theorem impl_PointNeg_eq (x y : Int) (z : Bool) : impl_PointNeg.f x y z = some (if z = true then (0, 0, true) else (x, (0 - y) % 12107, false)) := by
  unfold impl_PointNeg.f
  cases z
  · simp only [Bool.false_eq_true, if_false, impl_FpSub_eq, Option.bind_some]
  · simp
theorem impl_FpOk_eq (a : Int) : impl_FpOk.f a = some (decide (0 ≤ a ∧ a < 12107)) := by
  unfold impl_FpOk.f
  by_cases h : a ≥ 0
  · rw [if_pos h]
    (try simp only [Option.bind_some])
    congr 1
    rw [decide_eq_decide]
    omega
  · rw [if_neg h]
    (try simp only [Option.bind_some])
    congr 1
    symm
    rw [decide_eq_false_iff_not]
    omega
theorem impl_PointOk_eq (x y : Int) (z : Bool) : impl_PointOk.f x y z = some (okPoint x y z) := by
  unfold impl_PointOk.f okPoint
  cases z
  · simp only [Bool.false_eq_true, if_false, impl_FpOk_eq, impl_FpMul_eq, impl_curveAt_eq, Option.bind_some, decide_eq_true_eq]
    by_cases hx : 0 ≤ x ∧ x < 12107
    · rw [if_pos hx]
      by_cases hy : 0 ≤ y ∧ y < 12107
      · rw [if_pos hy]
        congr 1
        rw [Bool.eq_iff_iff, beq_iff_eq, decide_eq_true_eq]
        exact ⟨fun h => ⟨hx.1, hx.2, hy.1, hy.2, h⟩, fun h => h.2.2.2.2⟩
      · rw [if_neg hy]
        congr 1
        symm
        rw [decide_eq_false_iff_not]
        exact fun h => hy ⟨h.2.2.1, h.2.2.2.1⟩
    · rw [if_neg hx]
      congr 1
      symm
      rw [decide_eq_false_iff_not]
      exact fun h => hx ⟨h.1, h.2.1⟩
  · simp only [if_true]
    by_cases hx : x = 0
    · rw [if_pos hx]
      congr 1
      rw [Bool.eq_iff_iff, beq_iff_eq, decide_eq_true_eq]
      exact ⟨fun h => ⟨hx, h⟩, fun h => h.2⟩
    · rw [if_neg hx]
      congr 1
      symm
      rw [decide_eq_false_iff_not]
      exact fun h => hx h.1
theorem impl_PointText_eq (x y : Int) (z : Bool) : impl_PointText.f x y z = some (pointText x y z) := by
  unfold impl_PointText.f pointText
  rw [impl_PointOk_eq]
  simp only [Option.bind_some]
  cases okPoint x y z <;> cases z <;> simp
theorem impl_ReadPoint_eq (k : Nat) (hk : 100 < k) (t : ByteArray) : impl_ReadPoint.f k t = some (readPointOf t) := by
  unfold impl_ReadPoint.f readPointOf
  by_cases hs : t.size = 3
  · obtain ⟨a, b, c, ht, hl, h0, h1, h2⟩ := size_three t hs
    have w : ∀ n : Int, -10 ≤ n → n < 1000000 → wrap64 n = n := by
      intro n q1 q2
      unfold wrap64
      omega
    have ex : wrap64 (wrap64 (wrap64 (wrap64 (bt t 0) * 256) + wrap64 (bt t 1)) - 1) = bt t 0 * 256 + bt t 1 - 1 := by
      rw [h0, h1, w (a : Int) (by omega) (by omega), w (b : Int) (by omega) (by omega), w ((a : Int) * 256) (by omega) (by omega), w ((a : Int) * 256 + b) (by omega) (by omega), w ((a : Int) * 256 + b - 1) (by omega) (by omega)]
    have e2 : wrap64 (bt t 2) = bt t 2 := by
      rw [h2, w (c : Int) (by omega) (by omega)]
    have hs3 : (t.size : Int) = 3 := by omega
    rw [if_pos hs3, if_neg (show ¬ t.size ≠ 3 from fun q => q hs), ex, e2]
    clear ex e2 w
    have hx : bt t 0 * 256 + bt t 1 - 1 = (a : Int) * 256 + b - 1 := by rw [h0, h1]
    rw [if_pos (by omega), if_pos (by omega)]
    simp only [impl_PointText_eq, impl_curveAt_eq, impl_PointNeg_eq, impl_FpRoot_eq k (show 63 < k by omega), Option.bind_some, Bool.false_eq_true, if_false]
    have hX0 : bt t 0 * 256 + bt t 1 - 1 < 0 → (byteNs t = [0, 0, 0] ↔ bt t 2 = 0) := by
      intro h
      rw [ht]
      constructor
      · intro q
        simp only [List.cons.injEq] at q
        omega
      · intro q
        have qa : a = 0 := by omega
        have qb : b = 0 := by omega
        have qc : c = 0 := by omega
        rw [qa, qb, qc]
    have hXz : byteNs t = [0, 0, 0] → bt t 0 * 256 + bt t 1 - 1 < 0 := by
      intro q
      rw [ht] at q
      simp only [List.cons.injEq] at q
      omega
    generalize hX : bt t 0 * 256 + bt t 1 - 1 = X at hX0 hXz ⊢
    by_cases hneg : X < 0
    · have hpt : byteNs (pointText 0 0 true) = [0, 0, 0] := rfl
      rw [if_pos hneg]
      by_cases hz : byteNs t = [0, 0, 0]
      · rw [if_pos ((toList_iff _ _).2 (hpt.trans hz.symm)), if_pos hz]
      · rw [if_neg (fun q => hz (((toList_iff _ _).1 q).symm.trans hpt)), if_neg hz, if_pos (Or.inl (by omega))]
    · rw [if_neg hneg, if_neg (fun q => hneg (hXz q)), if_pos (by omega)]
      have hr := root_range ((X * X * X + X) % 12107)
      have hrz := root_zero ((X * X * X + X) % 12107)
      rw [Int.emod_emod] at hrz
      generalize rootOf ((X * X * X + X) % 12107) = R at hr hrz ⊢
      obtain ⟨y, ok⟩ := R
      simp only at hr hrz ⊢
      have hy2 : 0 ≤ (0 - y) % 12107 := Int.emod_nonneg _ (by decide)
      by_cases hok : 0 ≤ X ∧ X < 12107
      · by_cases hb : 1 < bt t 2
        · rw [if_pos (Or.inr hb)]
          have hc : 1 < c := by omega
          rw [if_neg (text_third ht hc hr.1), if_neg (text_third ht hc hy2)]
          split <;> rfl
        · rw [if_neg (c := ¬ (0 ≤ X ∧ X < 12107) ∨ 1 < bt t 2) (fun q => q.elim (fun q => q hok) hb)]
          cases ok with
          | true =>
            rw [if_neg (c := true = false) (by decide)]
            by_cases hy : Int.tmod y 2 = bt t 2
            · rw [if_pos hy, if_pos hy]
              split <;> rfl
            · rw [if_neg hy, if_neg hy]
              split <;> rfl
          | false =>
            obtain ⟨hz1, rfl⟩ := hrz rfl
            have hbad : okPoint X 0 false = false := by
              unfold okPoint
              rw [if_neg (by simp)]
              apply decide_eq_false
              rintro ⟨_, _, _, _, q⟩
              exact hz1 q.symm
            rw [if_pos rfl, if_neg (text_bad hs hbad), show (0 - (0 : Int)) % 12107 = 0 from rfl, if_neg (text_bad hs hbad)]
            split <;> rfl
      · rw [if_pos (Or.inl hok)]
        have hbad : ∀ z, okPoint X z false = false := by
          intro z
          unfold okPoint
          rw [if_neg (by simp)]
          apply decide_eq_false
          rintro ⟨q1, q2, _⟩
          exact hok ⟨q1, q2⟩
        rw [if_neg (text_bad hs (hbad _)), if_neg (text_bad hs (hbad _))]
        split <;> rfl
  · rw [if_neg (by omega), if_pos hs]
theorem FnExactReadPoint : laws_FnExactReadPoint.Pure := by
  intro t _
  obtain ⟨K, hK⟩ : ∃ k : Nat, 100 < k := ⟨101, by omega⟩
  refine ⟨K, ?_⟩
  unfold laws_FnExactReadPoint.f laws_eqPoint.f
  by_cases h : (t.size : Int) > 1048576
  · rw [if_pos h]
  rw [if_neg h, spec_ReadPoint_eq K hK t, impl_ReadPoint_eq K hK t]
  simp

end Go.Proofs.Ytfigfpfgeoadbaa.Pure
