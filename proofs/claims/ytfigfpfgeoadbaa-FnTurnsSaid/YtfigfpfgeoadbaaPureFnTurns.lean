/- Proved: the law FnTurns answers true at every draw: a number two by two to the power 12107 is the one turned, and turning goes with products. Conditions: none. -/
import Derived.Test.YtfigfpfgeoadbaaQFnTurnsx7
import Derived.Test.YtfigfpfgeoadbaaMod
import Derived.Test.YtfigfpfgeoadbaaFrob
import Derived.Test.YtfigfpfgeoadbaaDraw
import Derived.Test.YtfigfpfgeoadbaaGauss
set_option linter.unusedVariables false
set_option linter.unusedSimpArgs false
namespace Go.Proofs.Ytfigfpfgeoadbaa.Pure
open Go.RowKit Go.Proofs.Ytfigfpfgeoadbaa.PFnTurns Go.Proofs.YtfigfpfgeoadbaaW.PrintWords Go.Proofs.YtfigfpfgeoadbaaW.PrintLast Go.Proofs.YtfigfpfgeoadbaaW.PrintMore
open Go.Proofs.Ytfigfpfgeoadbaa.M

theorem laws_big_eq (l : List Int) : laws_big.f l = some (decide ((l.length : Int) > 1048576)) := rfl
theorem spec_l01New_l0 (l : List Int) (hl : l.length ≤ 1048576) : ∀ (d k i : Nat) (h : Int), d + 1 ≤ k → i + d = 4000 → ∃ h', spec_l01New.l0 k l h i = some (l, 0, h') := by
  intro d
  induction d with
  | zero =>
    intro k i h hk hi
    obtain ⟨k, rfl⟩ : ∃ j, k = j + 1 := ⟨k - 1, by omega⟩
    refine ⟨h, ?_⟩
    simp only [spec_l01New.l0]
    by_cases hlt : (i : Int) < l.length
    · rw [if_pos hlt, if_neg (by omega)]
    · rw [if_neg hlt]
  | succ d ih =>
    intro k i h hk hi
    obtain ⟨k, rfl⟩ : ∃ j, k = j + 1 := ⟨k - 1, by omega⟩
    simp only [spec_l01New.l0]
    by_cases hlt : (i : Int) < l.length
    · rw [if_pos hlt, if_pos (by omega), if_pos (by omega), wrap_nat i (by omega)]
      exact ih k (i + 1) _ (by omega) (by omega)
    · rw [if_neg hlt]
      exact ⟨h, rfl⟩
theorem spec_l01New_some (l : List Int) (hl : l.length ≤ 1048576) (k : Nat) (hk : 5000 ≤ k) : ∃ h, spec_l01New.f k l = some (l, 0, h) :=
  spec_l01New_l0 l hl 4000 k 0 _ (by omega) (by omega)
theorem spec_l01Byte_some (l : List Int) (hl : l.length ≤ 1048576) (i h : Int) (h0 : 0 ≤ i) (h1 : i ≤ l.length) : ∃ x i' h', spec_l01Byte.f l i h = some (x, i', h') ∧ (0 ≤ x ∧ x ≤ 255) ∧ 0 ≤ i' ∧ i' ≤ l.length := by
  unfold spec_l01Byte.f
  by_cases hlt : i < (l.length : Int)
  · rw [if_pos hlt, if_pos h0]
    refine ⟨_, _, _, rfl, and255 _, ?_⟩
    unfold wrap64
    omega
  · rw [if_neg hlt]
    exact ⟨_, _, _, rfl, and255 _, h0, h1⟩
theorem spec_l01Below_some (l : List Int) (hl : l.length ≤ 1048576) (i h n : Int) (h0 : 0 ≤ i) (h1 : i ≤ l.length) : ∃ x i' h', spec_l01Below.f l i h n = some (x, i', h') ∧ (0 ≤ x ∧ (n ≤ 0 → x = 0) ∧ (0 < n → x < n)) ∧ 0 ≤ i' ∧ i' ≤ l.length := by
  unfold spec_l01Below.f
  by_cases hn : n ≤ 0
  · rw [if_pos hn]
    exact ⟨_, _, _, rfl, ⟨by omega, fun _ => rfl, fun q => by omega⟩, h0, h1⟩
  · rw [if_neg hn]
    obtain ⟨x, i1, g1, e1, hx, a1, b1⟩ := spec_l01Byte_some l hl i h h0 h1
    by_cases hs : n ≤ 256
    · rw [if_pos hs, e1]
      simp only [Option.bind_some]
      rw [if_neg (by omega)]
      refine ⟨_, _, _, rfl, ?_, a1, b1⟩
      rw [Int.tmod_eq_emod_of_nonneg hx.1]
      exact ⟨Int.emod_nonneg _ (by omega), fun q => by omega, fun q => Int.emod_lt_of_pos _ q⟩
    · obtain ⟨y, i2, g2, e2, hy, a2, b2⟩ := spec_l01Byte_some l hl i1 g1 a1 b1
      obtain ⟨z, i3, g3, e3, hz, a3, b3⟩ := spec_l01Byte_some l hl i2 g2 a2 b2
      obtain ⟨t, i4, g4, e4, ht, a4, b4⟩ := spec_l01Byte_some l hl i3 g3 a3 b3
      rw [if_neg hs, e1]
      simp only [Option.bind_some, e2, e3, e4]
      rw [if_neg (by omega)]
      refine ⟨_, _, _, rfl, ?_, a4, b4⟩
      have hw : 0 ≤ wrap64 (wrap64 (wrap64 (wrap64 (x * 16777216) + wrap64 (y * 65536)) + wrap64 (z * 256)) + t) := by
        unfold wrap64
        omega
      rw [Int.tmod_eq_emod_of_nonneg hw]
      exact ⟨Int.emod_nonneg _ (by omega), fun q => by omega, fun q => Int.emod_lt_of_pos _ q⟩
theorem spec_DrawTwos_some (l : List Int) (hl : l.length ≤ 1048576) (k : Nat) (hk : 5000 ≤ k) : ∃ a b c d, spec_DrawTwos.f k l = some (a, b, c, d) ∧ 0 < a ∧ a < 12107 := by
  unfold spec_DrawTwos.f
  obtain ⟨h, e⟩ := spec_l01New_some l hl k hk
  obtain ⟨x1, j1, g1, e1, hx1, a1, b1⟩ := spec_l01Below_some l hl 0 h 250 (by omega) (by omega)
  obtain ⟨x2, j2, g2, e2, hx2, a2, b2⟩ := spec_l01Below_some l hl j1 g1 250 a1 b1
  obtain ⟨x3, j3, g3, e3, hx3, a3, b3⟩ := spec_l01Below_some l hl j2 g2 250 a2 b2
  obtain ⟨x4, j4, g4, e4, hx4, a4, b4⟩ := spec_l01Below_some l hl j3 g3 250 a3 b3
  rw [e]
  simp only [Option.bind_some, e1, e2, e3, e4]
  refine ⟨_, _, _, _, rfl, ?_⟩
  have q0 := hx1.1
  have q1 := hx1.2.2 (by omega)
  have w1 : wrap64 (x1 * 47) = x1 * 47 := by unfold wrap64; omega
  have w2 : wrap64 (1 + x1 * 47) = 1 + x1 * 47 := by unfold wrap64; omega
  rw [w1, w2]
  clear w1 w2
  omega
theorem impl_remainder_eq (a m : Int) (h : 0 < m) (hm : m ≤ 1000000) : impl_remainder.f a m = some (a % m) := by
  unfold impl_remainder.f
  rw [if_neg (by omega), tm_eq a m h]
  have h0 := Int.emod_nonneg a (show m ≠ 0 by omega)
  have h1 := Int.emod_lt_of_pos a h
  by_cases hc : 0 ≤ a ∨ m ∣ a
  · rw [if_pos hc, if_neg (by omega)]
    simp
  · rw [if_neg hc, if_pos (by omega)]
    unfold wrap64
    congr 1
    omega
theorem impl_FpOf_eq (a : Int) : impl_FpOf.f a = some (a % 12107) := by
  unfold impl_FpOf.f
  rw [impl_remainder_eq a 12107 (by omega) (by omega)]
  rfl
theorem impl_FpMul_eq (a b : Int) : impl_FpMul.f a b = some ((a * b) % 12107) := by
  unfold impl_FpMul.f
  simp only [impl_FpOf_eq, Option.bind_some]
  have h0 := Int.emod_nonneg a (show (12107 : Int) ≠ 0 by omega)
  have h1 := Int.emod_lt_of_pos a (show (0 : Int) < 12107 by omega)
  have h2 := Int.emod_nonneg b (show (12107 : Int) ≠ 0 by omega)
  have h3 := Int.emod_lt_of_pos b (show (0 : Int) < 12107 by omega)
  rw [show wrap64 ((a % 12107) * (b % 12107)) = (a % 12107) * (b % 12107) from wrap_mul _ _ 12107 (by omega) h0 h1 h2 h3]
  exact congrArg some (Int.mul_emod a b 12107).symm
theorem impl_FpAdd_eq (a b : Int) : impl_FpAdd.f a b = some ((a + b) % 12107) := by
  unfold impl_FpAdd.f
  simp only [impl_FpOf_eq, Option.bind_some]
  have h0 := Int.emod_nonneg a (show (12107 : Int) ≠ 0 by omega)
  have h1 := Int.emod_lt_of_pos a (show (0 : Int) < 12107 by omega)
  have h2 := Int.emod_nonneg b (show (12107 : Int) ≠ 0 by omega)
  have h3 := Int.emod_lt_of_pos b (show (0 : Int) < 12107 by omega)
  rw [show wrap64 ((a % 12107) + (b % 12107)) = (a % 12107) + (b % 12107) from by unfold wrap64; omega]
  exact congrArg some (Int.add_emod a b 12107).symm
theorem impl_FpSub_eq (a b : Int) : impl_FpSub.f a b = some ((a - b) % 12107) := by
  unfold impl_FpSub.f
  simp only [impl_FpOf_eq, Option.bind_some]
  have h0 := Int.emod_nonneg a (show (12107 : Int) ≠ 0 by omega)
  have h1 := Int.emod_lt_of_pos a (show (0 : Int) < 12107 by omega)
  have h2 := Int.emod_nonneg b (show (12107 : Int) ≠ 0 by omega)
  have h3 := Int.emod_lt_of_pos b (show (0 : Int) < 12107 by omega)
  rw [show wrap64 ((a % 12107) - (b % 12107)) = (a % 12107) - (b % 12107) from by unfold wrap64; omega]
  exact congrArg some (Int.sub_emod a b 12107).symm
theorem impl_TwoMul_eq (a b c d : Int) : impl_TwoMul.f a b c d = some ((a * c - b * d) % 12107, (a * d + b * c) % 12107) := by
  unfold impl_TwoMul.f
  simp only [impl_FpMul_eq, impl_FpSub_eq, impl_FpAdd_eq, Option.bind_some, Int.emod_add_emod, Int.add_emod_emod, Int.emod_sub_emod, Int.sub_emod_emod]
theorem impl_TwoTurn_eq (a b : Int) : impl_TwoTurn.f a b = some (a % 12107, (0 - b) % 12107) := by
  unfold impl_TwoTurn.f
  simp only [impl_FpOf_eq, impl_FpSub_eq, Option.bind_some]
theorem impl_powerMod_l0 (m : Int) (hm : 0 < m) (hm2 : m ≤ 100000) : ∀ (d k : Nat) (x n r : Int), d < k → 0 ≤ n → n < 2 ^ d → n ≤ 9223372036854775807 → 0 ≤ x → x < m → 0 ≤ r → r < m →
    impl_powerMod.l0 k x n m r = some (r * x ^ n.toNat % m) := by
  intro d
  induction d with
  | zero =>
    intro k x n r hk h0 h1 _ _ _ hr0 hr1
    obtain ⟨k, rfl⟩ : ∃ j, k = j + 1 := ⟨k - 1, by omega⟩
    obtain rfl : n = 0 := by omega
    simp only [impl_powerMod.l0]
    rw [if_neg (by omega)]
    simp [Int.emod_eq_of_lt hr0 hr1]
  | succ d ih =>
    intro k x n r hk h0 h1 hb hx0 hx1 hr0 hr1
    obtain ⟨k, rfl⟩ : ∃ j, k = j + 1 := ⟨k - 1, by omega⟩
    rw [Int.pow_succ] at h1
    simp only [impl_powerMod.l0]
    by_cases hn : n > 0
    · have hm0 : ¬ m = 0 := by omega
      rw [if_pos hn]
      have e2 : Int.tmod n 2 = n % 2 := Int.tmod_eq_emod_of_nonneg h0
      have e3 : wrap64 (Int.tdiv n 2) = n / 2 := by
        rw [Int.tdiv_eq_ediv_of_nonneg h0]; unfold wrap64; omega
      have sq : Int.tmod (wrap64 (x * x)) m = x * x % m := by
        rw [wrap_mul x x m (by omega) hx0 hx1 hx0 hx1, Int.tmod_eq_emod_of_nonneg (Int.mul_nonneg hx0 hx0)]
      have rx : Int.tmod (wrap64 (r * x)) m = r * x % m := by
        rw [wrap_mul r x m (by omega) hr0 hr1 hx0 hx1, Int.tmod_eq_emod_of_nonneg (Int.mul_nonneg hr0 hx0)]
      rw [e2, e3, sq, rx]
      have p0 := Int.emod_nonneg (x * x) (show m ≠ 0 by omega)
      have p1 := Int.emod_lt_of_pos (x * x) hm
      have q0 := Int.emod_nonneg (r * x) (show m ≠ 0 by omega)
      have q1 := Int.emod_lt_of_pos (r * x) hm
      have hp : x ^ n.toNat = x ^ (n.toNat % 2) * (x * x) ^ (n / 2).toNat := by
        rw [pow_half x n.toNat]
        congr 2
        omega
      by_cases ho : n % 2 = 1
      · rw [if_pos ho, if_neg hm0, ih k _ _ _ (by omega) (by omega) (by omega) (by omega) p0 p1 q0 q1, hp, show n.toNat % 2 = 1 by omega]
        congr 1
        rw [Int.pow_succ, Int.pow_zero, Int.one_mul, emod_mul_l, ← emod_mul_r, emod_pow, emod_mul_r, Int.mul_assoc]
      · rw [if_neg ho, if_neg hm0, ih k _ _ _ (by omega) (by omega) (by omega) (by omega) p0 p1 hr0 hr1, hp, show n.toNat % 2 = 0 by omega]
        congr 1
        rw [Int.pow_zero, Int.one_mul, ← emod_mul_r, emod_pow, emod_mul_r]
    · rw [if_neg hn]
      obtain rfl : n = 0 := by omega
      simp [Int.emod_eq_of_lt hr0 hr1]
theorem impl_powerMod_eq (k : Nat) (hk : 63 < k) (a n m : Int) (hm : 1 < m) (hm2 : m ≤ 100000) (h0 : 0 ≤ n) (hb : n ≤ 9223372036854775807) : impl_powerMod.f k a n m = some (a ^ n.toNat % m) := by
  unfold impl_powerMod.f
  rw [impl_remainder_eq a m (by omega) (by omega)]
  simp only [Option.bind_some]
  rw [impl_powerMod_l0 m (by omega) hm2 63 k _ n 1 hk h0 (by omega) hb (Int.emod_nonneg a (by omega)) (Int.emod_lt_of_pos a (by omega)) (by omega) (by omega)]
  rw [Int.one_mul, emod_pow]
theorem impl_FpInv_eq (k : Nat) (hk : 63 < k) (a : Int) : impl_FpInv.f k a = some (a ^ 12105 % 12107) := by
  unfold impl_FpInv.f
  rw [impl_powerMod_eq k hk a 12105 12107 (by omega) (by omega) (by omega) (by omega)]
  rfl
theorem impl_TwoInv_eq (k : Nat) (hk : 63 < k) (a b : Int) : impl_TwoInv.f k a b = some (a * (a * a + b * b) ^ 12105 % 12107, (0 - b) * (a * a + b * b) ^ 12105 % 12107) := by
  unfold impl_TwoInv.f
  simp only [impl_FpMul_eq, impl_FpSub_eq, impl_FpAdd_eq, Option.bind_some, ← Int.add_emod]
  simp only [impl_FpInv_eq k hk, Option.bind_some, emod_pow, emod_mul_l, emod_mul_r]
theorem impl_TwoPow_l0 : ∀ (d k : Nat) (n : Int) (x r : G), d < k → 0 ≤ n → n < 2 ^ d → n ≤ 9223372036854775807 → G.Small r →
    impl_TwoPow.l0 k n x.re x.im r.re r.im = some ((G.mul r (G.pow x n.toNat)).re % 12107, (G.mul r (G.pow x n.toNat)).im % 12107) := by
  intro d
  induction d with
  | zero =>
    intro k n x r hk h0 h1 _ hr
    obtain ⟨k, rfl⟩ : ∃ j, k = j + 1 := ⟨k - 1, by omega⟩
    obtain rfl : n = 0 := by omega
    simp only [impl_TwoPow.l0]
    rw [if_neg (by omega), show (0 : Int).toNat = 0 from rfl, G.pow_zero, G.mul_one, hr.re, hr.im]
  | succ d ih =>
    intro k n x r hk h0 h1 hb hr
    obtain ⟨k, rfl⟩ : ∃ j, k = j + 1 := ⟨k - 1, by omega⟩
    rw [Int.pow_succ] at h1
    simp only [impl_TwoPow.l0]
    by_cases hn : n > 0
    · rw [if_pos hn]
      have e2 : Int.tmod n 2 = n % 2 := Int.tmod_eq_emod_of_nonneg h0
      have e3 : wrap64 (Int.tdiv n 2) = n / 2 := by
        rw [Int.tdiv_eq_ediv_of_nonneg h0]; unfold wrap64; omega
      rw [e2, e3]
      simp only [impl_TwoMul_eq, Option.bind_some]
      have hp : G.pow x n.toNat = G.mul (G.pow x (n.toNat % 2)) (G.pow (G.mul x x) (n / 2).toNat) := by
        rw [G.pow_half x n.toNat]
        congr 2
        omega
      have sq : ∀ a, G.Eqv (G.mul a (G.pow (G.red (G.mul x x)) (n / 2).toNat)) (G.mul a (G.pow (G.mul x x) (n / 2).toNat)) := fun a => G.mul_congr (G.Eqv.refl a) (G.pow_congr (G.red_eqv _) _)
      by_cases ho : n % 2 = 1
      · rw [if_pos ho]
        have h := ih k (n / 2) (G.red (G.mul x x)) (G.red (G.mul r x)) (by omega) (by omega) (by omega) (by omega) (G.red_small _)
        refine Eq.trans h ?_
        rw [hp, show n.toNat % 2 = 1 by omega, G.pow_one, ← G.mul_assoc]
        exact G.pair_eq ((G.mul_congr (G.red_eqv _) (G.Eqv.refl _)).trans (sq _))
      · rw [if_neg ho]
        have h := ih k (n / 2) (G.red (G.mul x x)) r (by omega) (by omega) (by omega) (by omega) hr
        refine Eq.trans h ?_
        rw [hp, show n.toNat % 2 = 0 by omega, G.pow_zero, G.one_mul]
        exact G.pair_eq (sq _)
    · rw [if_neg hn]
      obtain rfl : n = 0 := by omega
      rw [show (0 : Int).toNat = 0 from rfl, G.pow_zero, G.mul_one, hr.re, hr.im]
theorem impl_TwoPow_eq (k : Nat) (hk : 63 < k) (a b n : Int) (hb : n ≤ 9223372036854775807) : impl_TwoPow.f k a b n = some (if n < 0 then (0, 0) else ((G.pow ⟨a, b⟩ n.toNat).re % 12107, (G.pow ⟨a, b⟩ n.toNat).im % 12107)) := by
  unfold impl_TwoPow.f
  by_cases hn : n < 0
  · rw [if_pos hn, if_pos hn]
  · rw [if_neg hn, if_neg hn]
    refine Eq.trans (impl_TwoPow_l0 63 k n ⟨a, b⟩ G.one hk (by omega) (by omega) hb ⟨rfl, rfl⟩) ?_
    rw [G.one_mul]
theorem impl_TwoAdd_eq (a b c d : Int) : impl_TwoAdd.f a b c d = some ((a + c) % 12107, (b + d) % 12107) := by
  unfold impl_TwoAdd.f
  simp only [impl_FpAdd_eq, Option.bind_some]
theorem impl_FpOk_eq (a : Int) : impl_FpOk.f a = some (decide (0 ≤ a ∧ a < 12107)) := by
  unfold impl_FpOk.f
  by_cases h : a ≥ 0
  · rw [if_pos h]
    (try simp only [Option.bind_some])
    congr 1
    rw [decide_eq_decide]
    omega
  · rw [if_neg h]
    (try simp only [Option.bind_some])
    congr 1
    symm
    rw [decide_eq_false_iff_not]
    omega
theorem impl_TwoOk_eq (a b : Int) : impl_TwoOk.f a b = some (decide (0 ≤ a ∧ a < 12107) && decide (0 ≤ b ∧ b < 12107)) := by
  unfold impl_TwoOk.f
  simp only [impl_FpOk_eq, Option.bind_some]
  by_cases h : 0 ≤ a ∧ a < 12107
  · rw [decide_eq_true h]
    simp
  · rw [decide_eq_false h]
    simp
theorem spec_l01PickInt_some (l : List Int) (hl : l.length ≤ 1048576) (i h : Int) (q : List Int) (hq : 0 < q.length) (h0 : 0 ≤ i) (h1 : i ≤ l.length) (hall : ∀ x ∈ q, IsInt x) : ∃ x i' h', spec_l01PickInt.f l i h q = some (x, i', h') ∧ IsInt x ∧ 0 ≤ i' ∧ i' ≤ l.length := by
  unfold spec_l01PickInt.f
  obtain ⟨x, j1, g1, e1, hx, a1, b1⟩ := spec_l01Below_some l hl i h q.length h0 h1
  rw [e1]
  have := hx.2.2 (by omega)
  simp only [Option.bind_some]
  rw [if_pos hx.1, if_pos this]
  refine ⟨_, _, _, rfl, hall _ ?_, a1, b1⟩
  unfold rd
  rw [List.getD_eq_getElem?_getD, List.getElem?_eq_getElem (by omega)]
  exact List.getElem_mem _
theorem spec_l04Num_some (l : List Int) (hl : l.length ≤ 1048576) (i h : Int) (h0 : 0 ≤ i) (h1 : i ≤ l.length) : ∃ x i' h', spec_l04Num.f l i h = some (x, i', h') ∧ IsInt x ∧ 0 ≤ i' ∧ i' ≤ l.length := by
  unfold spec_l04Num.f
  obtain ⟨x, j1, g1, e1, hx, a1, b1⟩ := spec_l01Below_some l hl i h 256 h0 h1
  obtain ⟨y, j2, g2, e2, hy, a2, b2⟩ := spec_l01Below_some l hl j1 g1 256 a1 b1
  rw [e1]
  simp only [Option.bind_some, e2]
  obtain ⟨z, j3, g3, e3, hz, a3, b3⟩ := spec_l01PickInt_some l hl j2 g2 _ (by simp) a2 b2 (l04_ints x y)
  rw [e3]
  exact ⟨_, _, _, rfl, hz, a3, b3⟩
theorem spec_l05Two_some (l : List Int) (hl : l.length ≤ 1048576) (i h : Int) (h0 : 0 ≤ i) (h1 : i ≤ l.length) : ∃ x y i' h', spec_l05Two.f l i h = some (x, y, i', h') ∧ 0 ≤ i' ∧ i' ≤ l.length := by
  unfold spec_l05Two.f
  obtain ⟨x, j1, g1, e1, hx, a1, b1⟩ := spec_l04Num_some l hl i h h0 h1
  obtain ⟨y, j2, g2, e2, hy, a2, b2⟩ := spec_l04Num_some l hl j1 g1 a1 b1
  rw [e1]
  simp only [Option.bind_some, e2]
  exact ⟨_, _, _, _, rfl, a2, b2⟩
theorem spec_DrawTwoOk_some (l : List Int) (hl : l.length ≤ 1048576) (k : Nat) (hk : 5000 ≤ k) : ∃ a b, spec_DrawTwoOk.f k l = some (a, b) := by
  unfold spec_DrawTwoOk.f
  obtain ⟨h, e⟩ := spec_l01New_some l hl k hk
  obtain ⟨x, y, j1, g1, e1, a1, b1⟩ := spec_l05Two_some l hl 0 h (by omega) (by omega)
  rw [e]
  simp only [Option.bind_some, e1]
  exact ⟨_, _, rfl⟩
theorem spec_l05Pair_some (l : List Int) (hl : l.length ≤ 1048576) (k : Nat) (hk : 5000 ≤ k) : ∃ a b c d, spec_l05Pair.f k l = some (a, b, c, d) := by
  unfold spec_l05Pair.f
  obtain ⟨h, e⟩ := spec_l01New_some l hl k hk
  obtain ⟨x, y, j1, g1, e1, a1, b1⟩ := spec_l05Two_some l hl 0 h (by omega) (by omega)
  obtain ⟨u, v, j2, g2, e2, a2, b2⟩ := spec_l05Two_some l hl j1 g1 a1 b1
  rw [e]
  simp only [Option.bind_some, e1, e2]
  exact ⟨_, _, _, _, rfl⟩
theorem spec_DrawTwoMul_some (l : List Int) (hl : l.length ≤ 1048576) (k : Nat) (hk : 5000 ≤ k) : ∃ a b c d, spec_DrawTwoMul.f k l = some (a, b, c, d) := by
  unfold spec_DrawTwoMul.f
  obtain ⟨a, b, c, d, e⟩ := spec_l05Pair_some l hl k hk
  rw [e]
  exact ⟨a, b, c, d, rfl⟩
theorem spec_FpOk_eq (a : Int) : spec_FpOk.f a = some (decide (0 ≤ a ∧ a < 12107)) := by
  unfold spec_FpOk.f spec_l01In.f
  by_cases h : a ≥ 0
  · rw [if_pos h]
    (try simp only [Option.bind_some])
    congr 1
    rw [decide_eq_decide]
    omega
  · rw [if_neg h]
    (try simp only [Option.bind_some])
    congr 1
    symm
    rw [decide_eq_false_iff_not]
    omega
theorem spec_TwoOk_eq (a b : Int) : spec_TwoOk.f a b = some (decide (0 ≤ a ∧ a < 12107) && decide (0 ≤ b ∧ b < 12107)) := by
  unfold spec_TwoOk.f
  simp only [spec_FpOk_eq, Option.bind_some]
  by_cases h : 0 ≤ a ∧ a < 12107
  · rw [decide_eq_true h]
    simp
  · rw [decide_eq_false h]
    simp
theorem spec_FpOf_eq (a : Int) : spec_FpOf.f a = some (a % 12107) := by
  unfold spec_FpOf.f
  rw [tm_eq a 12107 (by omega)]
  have h0 := Int.emod_nonneg a (show (12107 : Int) ≠ 0 by omega)
  have h1 := Int.emod_lt_of_pos a (show (0 : Int) < 12107 by omega)
  by_cases h : 0 ≤ a ∨ (12107 : Int) ∣ a
  · rw [if_pos h, if_neg (by omega)]
    simp
  · rw [if_neg h, if_pos (by omega)]
    unfold wrap64
    congr 1
    omega
theorem spec_FpSub_eq (a b : Int) : spec_FpSub.f a b = some ((a - b) % 12107) := by
  unfold spec_FpSub.f
  simp only [spec_FpOf_eq, Option.bind_some]
  have h0 := Int.emod_nonneg a (show (12107 : Int) ≠ 0 by omega)
  have h1 := Int.emod_lt_of_pos a (show (0 : Int) < 12107 by omega)
  have h2 := Int.emod_nonneg b (show (12107 : Int) ≠ 0 by omega)
  have h3 := Int.emod_lt_of_pos b (show (0 : Int) < 12107 by omega)
  rw [show wrap64 ((a % 12107) - (b % 12107)) = (a % 12107) - (b % 12107) from by unfold wrap64; omega]
  exact congrArg some (Int.sub_emod a b 12107).symm
theorem spec_FpMul_eq (a b : Int) : spec_FpMul.f a b = some ((a * b) % 12107) := by
  unfold spec_FpMul.f
  simp only [spec_FpOf_eq, Option.bind_some]
  have h0 := Int.emod_nonneg a (show (12107 : Int) ≠ 0 by omega)
  have h1 := Int.emod_lt_of_pos a (show (0 : Int) < 12107 by omega)
  have h2 := Int.emod_nonneg b (show (12107 : Int) ≠ 0 by omega)
  have h3 := Int.emod_lt_of_pos b (show (0 : Int) < 12107 by omega)
  rw [show wrap64 ((a % 12107) * (b % 12107)) = (a % 12107) * (b % 12107) from wrap_mul _ _ 12107 (by omega) h0 h1 h2 h3]
  exact congrArg some (Int.mul_emod a b 12107).symm
theorem spec_FpAdd_eq (a b : Int) : spec_FpAdd.f a b = some ((a + b) % 12107) := by
  unfold spec_FpAdd.f
  simp only [spec_FpOf_eq, Option.bind_some]
  have h0 := Int.emod_nonneg a (show (12107 : Int) ≠ 0 by omega)
  have h1 := Int.emod_lt_of_pos a (show (0 : Int) < 12107 by omega)
  have h2 := Int.emod_nonneg b (show (12107 : Int) ≠ 0 by omega)
  have h3 := Int.emod_lt_of_pos b (show (0 : Int) < 12107 by omega)
  rw [show wrap64 ((a % 12107) + (b % 12107)) = (a % 12107) + (b % 12107) from by unfold wrap64; omega]
  exact congrArg some (Int.add_emod a b 12107).symm
theorem spec_TwoMul_eq (a b c d : Int) : spec_TwoMul.f a b c d = some ((a * c - b * d) % 12107, (a * d + b * c) % 12107) := by
  unfold spec_TwoMul.f
  simp only [spec_FpMul_eq, spec_FpSub_eq, spec_FpAdd_eq, Option.bind_some, Int.emod_add_emod, Int.add_emod_emod, Int.emod_sub_emod, Int.sub_emod_emod]
theorem spec_FpPow_l0 : ∀ (d k : Nat) (x n r : Int), d < k → 0 ≤ n → n < 2 ^ d → n ≤ 9223372036854775807 → 0 ≤ r → r < 12107 →
    spec_FpPow.l0 k n r x = some (r * x ^ n.toNat % 12107) := by
  intro d
  induction d with
  | zero =>
    intro k x n r hk h0 h1 _ hr0 hr1
    obtain ⟨k, rfl⟩ : ∃ j, k = j + 1 := ⟨k - 1, by omega⟩
    obtain rfl : n = 0 := by omega
    simp only [spec_FpPow.l0]
    rw [if_neg (by omega)]
    simp [Int.emod_eq_of_lt hr0 hr1]
  | succ d ih =>
    intro k x n r hk h0 h1 hb hr0 hr1
    obtain ⟨k, rfl⟩ : ∃ j, k = j + 1 := ⟨k - 1, by omega⟩
    rw [Int.pow_succ] at h1
    simp only [spec_FpPow.l0]
    by_cases hn : n > 0
    · rw [if_pos hn]
      have e2 : Int.tmod n 2 = n % 2 := Int.tmod_eq_emod_of_nonneg h0
      have e3 : wrap64 (Int.tdiv n 2) = n / 2 := by
        rw [Int.tdiv_eq_ediv_of_nonneg h0]; unfold wrap64; omega
      rw [e2, e3]
      simp only [spec_FpMul_eq, Option.bind_some]
      have q0 := Int.emod_nonneg (r * x) (show (12107 : Int) ≠ 0 by omega)
      have q1 := Int.emod_lt_of_pos (r * x) (show (0 : Int) < 12107 by omega)
      have hp : x ^ n.toNat = x ^ (n.toNat % 2) * (x * x) ^ (n / 2).toNat := by
        rw [pow_half x n.toNat]
        congr 2
        omega
      by_cases ho : n % 2 = 1
      · rw [if_pos ho, ih k _ _ _ (by omega) (by omega) (by omega) (by omega) q0 q1, hp, show n.toNat % 2 = 1 by omega]
        congr 1
        rw [Int.pow_succ, Int.pow_zero, Int.one_mul, emod_mul_l, ← emod_mul_r, emod_pow, emod_mul_r, Int.mul_assoc]
      · rw [if_neg ho, ih k _ _ _ (by omega) (by omega) (by omega) (by omega) hr0 hr1, hp, show n.toNat % 2 = 0 by omega]
        congr 1
        rw [Int.pow_zero, Int.one_mul, ← emod_mul_r, emod_pow, emod_mul_r]
    · rw [if_neg hn]
      obtain rfl : n = 0 := by omega
      simp [Int.emod_eq_of_lt hr0 hr1]
theorem spec_FpPow_eq (k : Nat) (hk : 63 < k) (a n : Int) (hb : n ≤ 9223372036854775807) : spec_FpPow.f k a n = some (if n < 0 then 0 else a ^ n.toNat % 12107) := by
  unfold spec_FpPow.f
  by_cases hn : n < 0
  · rw [if_pos hn, if_pos hn]
  · rw [if_neg hn, if_neg hn, spec_FpOf_eq]
    simp only [Option.bind_some]
    rw [spec_FpPow_l0 63 k _ n 1 hk (by omega) (by omega) hb (by omega) (by omega), Int.one_mul, emod_pow]
theorem spec_FpInv_eq (k : Nat) (hk : 63 < k) (a : Int) : spec_FpInv.f k a = some (a ^ 12105 % 12107) := by
  unfold spec_FpInv.f
  rw [spec_FpPow_eq k hk a 12105 (by omega)]
  rfl
theorem spec_TwoInv_eq (k : Nat) (hk : 63 < k) (a b : Int) : spec_TwoInv.f k a b = some (a * (a * a + b * b) ^ 12105 % 12107, (0 - b) * (a * a + b * b) ^ 12105 % 12107) := by
  unfold spec_TwoInv.f
  simp only [spec_FpMul_eq, spec_FpSub_eq, spec_FpAdd_eq, Option.bind_some, ← Int.add_emod]
  simp only [spec_FpInv_eq k hk, Option.bind_some, emod_pow, emod_mul_l, emod_mul_r]
theorem spec_TwoAdd_eq (a b c d : Int) : spec_TwoAdd.f a b c d = some ((a + c) % 12107, (b + d) % 12107) := by
  unfold spec_TwoAdd.f
  simp only [spec_FpAdd_eq, Option.bind_some]
theorem turn_pow (K : Nat) (hk : 63 < K) (a b : Int) : impl_TwoPow.f K a b 12107 = some (a % 12107, (0 - b) % 12107) := by
  have h := impl_TwoPow_eq K hk a b 12107 (by omega)
  have e : (12107 : Int).toNat = 12107 := by decide
  rw [if_neg (show ¬ (12107 : Int) < 0 by decide), e] at h
  rw [h]
  exact G.pair_eq (frob a b)
theorem FnTurns : laws_FnTurns.Pure := by
  intro l _ _ _
  obtain ⟨K, hK⟩ : ∃ k : Nat, 5000 ≤ k := ⟨5000, Nat.le_refl _⟩
  refine ⟨K, ?_⟩
  unfold laws_FnTurns.f
  rw [laws_big_eq]
  simp only [Option.bind_some]
  by_cases hb : (l.length : Int) > 1048576
  · rw [if_pos (decide_eq_true hb)]
  rw [if_neg (by simp [hb])]
  obtain ⟨a, b, c, d, e1, ha0, ha1⟩ := spec_DrawTwos_some l (by omega) K hK
  obtain ⟨x, y, e2⟩ := spec_DrawTwoOk_some l (by omega) K hK
  obtain ⟨p, q, r, s, e3⟩ := spec_DrawTwoMul_some l (by omega) K hK
  have hk : 63 < K := by omega
  rw [e1, e2, e3]
  simp only [impl_TwoMul_eq, spec_TwoMul_eq, impl_TwoTurn_eq, impl_TwoInv_eq K hk, spec_TwoInv_eq K hk, impl_TwoAdd_eq, spec_TwoAdd_eq, impl_TwoOk_eq, spec_TwoOk_eq, turn_pow K hk a b, Option.bind_some]
  have t1 : (a * c - b * d) % 12107 % 12107 = (a % 12107 * (c % 12107) - (0 - b) % 12107 * ((0 - d) % 12107)) % 12107 := by
    rw [Int.emod_emod]
    have m1 : a % 12107 * (c % 12107) % 12107 = a * c % 12107 := by rw [emod_mul_l, emod_mul_r]
    have m2 : (0 - b) % 12107 * ((0 - d) % 12107) % 12107 = b * d % 12107 := by
      rw [emod_mul_l, emod_mul_r, Int.zero_sub, Int.zero_sub, Int.neg_mul_neg]
    exact (em_sub m1 m2).symm
  have t2 : (0 - (a * d + b * c) % 12107) % 12107 = (a % 12107 * ((0 - d) % 12107) + (0 - b) % 12107 * (c % 12107)) % 12107 := by
    rw [Int.sub_emod_emod]
    have m1 : a % 12107 * ((0 - d) % 12107) % 12107 = a * (0 - d) % 12107 := by rw [emod_mul_l, emod_mul_r]
    have m2 : (0 - b) % 12107 * (c % 12107) % 12107 = (0 - b) * c % 12107 := by rw [emod_mul_l, emod_mul_r]
    rw [em_add m1 m2]
    have e : a * (0 - d) + (0 - b) * c = 0 - (a * d + b * c) := by grind
    rw [e]
  rw [t1, t2]
  simp

end Go.Proofs.Ytfigfpfgeoadbaa.Pure
