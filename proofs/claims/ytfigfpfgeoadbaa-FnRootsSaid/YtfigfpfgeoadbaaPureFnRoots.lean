/- Proved: the law FnRoots answers true at every draw: squares modulo 12107 have roots, and of two numbers that have none the product has one. Conditions: none. -/
import Derived.Test.YtfigfpfgeoadbaaQFnRootsx2
import Derived.Test.YtfigfpfgeoadbaaMod
import Derived.Test.YtfigfpfgeoadbaaEuler
import Derived.Test.YtfigfpfgeoadbaaDraw
set_option linter.unusedVariables false
set_option linter.unusedSimpArgs false
namespace Go.Proofs.Ytfigfpfgeoadbaa.Pure
open Go.RowKit Go.Proofs.Ytfigfpfgeoadbaa.PFnRoots Go.Proofs.YtfigfpfgeoadbaaW.PrintWords Go.Proofs.YtfigfpfgeoadbaaW.PrintLast Go.Proofs.YtfigfpfgeoadbaaW.PrintMore
open Go.Proofs.Ytfigfpfgeoadbaa.M

theorem laws_big_eq (l : List Int) : laws_big.f l = some (decide ((l.length : Int) > 1048576)) := rfl
theorem spec_l01New_l0 (l : List Int) (hl : l.length ≤ 1048576) : ∀ (d k i : Nat) (h : Int), d + 1 ≤ k → i + d = 4000 → ∃ h', spec_l01New.l0 k l h i = some (l, 0, h') := by
  intro d
  induction d with
  | zero =>
    intro k i h hk hi
    obtain ⟨k, rfl⟩ : ∃ j, k = j + 1 := ⟨k - 1, by omega⟩
    refine ⟨h, ?_⟩
    simp only [spec_l01New.l0]
    by_cases hlt : (i : Int) < l.length
    · rw [if_pos hlt, if_neg (by omega)]
    · rw [if_neg hlt]
  | succ d ih =>
    intro k i h hk hi
    obtain ⟨k, rfl⟩ : ∃ j, k = j + 1 := ⟨k - 1, by omega⟩
    simp only [spec_l01New.l0]
    by_cases hlt : (i : Int) < l.length
    · rw [if_pos hlt, if_pos (by omega), if_pos (by omega), wrap_nat i (by omega)]
      exact ih k (i + 1) _ (by omega) (by omega)
    · rw [if_neg hlt]
      exact ⟨h, rfl⟩
theorem spec_l01New_some (l : List Int) (hl : l.length ≤ 1048576) (k : Nat) (hk : 5000 ≤ k) : ∃ h, spec_l01New.f k l = some (l, 0, h) :=
  spec_l01New_l0 l hl 4000 k 0 _ (by omega) (by omega)
theorem spec_l01Byte_some (l : List Int) (hl : l.length ≤ 1048576) (i h : Int) (h0 : 0 ≤ i) (h1 : i ≤ l.length) : ∃ x i' h', spec_l01Byte.f l i h = some (x, i', h') ∧ (0 ≤ x ∧ x ≤ 255) ∧ 0 ≤ i' ∧ i' ≤ l.length := by
  unfold spec_l01Byte.f
  by_cases hlt : i < (l.length : Int)
  · rw [if_pos hlt, if_pos h0]
    refine ⟨_, _, _, rfl, and255 _, ?_⟩
    unfold wrap64
    omega
  · rw [if_neg hlt]
    exact ⟨_, _, _, rfl, and255 _, h0, h1⟩
theorem spec_l01Below_some (l : List Int) (hl : l.length ≤ 1048576) (i h n : Int) (h0 : 0 ≤ i) (h1 : i ≤ l.length) : ∃ x i' h', spec_l01Below.f l i h n = some (x, i', h') ∧ (0 ≤ x ∧ (n ≤ 0 → x = 0) ∧ (0 < n → x < n)) ∧ 0 ≤ i' ∧ i' ≤ l.length := by
  unfold spec_l01Below.f
  by_cases hn : n ≤ 0
  · rw [if_pos hn]
    exact ⟨_, _, _, rfl, ⟨by omega, fun _ => rfl, fun q => by omega⟩, h0, h1⟩
  · rw [if_neg hn]
    obtain ⟨x, i1, g1, e1, hx, a1, b1⟩ := spec_l01Byte_some l hl i h h0 h1
    by_cases hs : n ≤ 256
    · rw [if_pos hs, e1]
      simp only [Option.bind_some]
      rw [if_neg (by omega)]
      refine ⟨_, _, _, rfl, ?_, a1, b1⟩
      rw [Int.tmod_eq_emod_of_nonneg hx.1]
      exact ⟨Int.emod_nonneg _ (by omega), fun q => by omega, fun q => Int.emod_lt_of_pos _ q⟩
    · obtain ⟨y, i2, g2, e2, hy, a2, b2⟩ := spec_l01Byte_some l hl i1 g1 a1 b1
      obtain ⟨z, i3, g3, e3, hz, a3, b3⟩ := spec_l01Byte_some l hl i2 g2 a2 b2
      obtain ⟨t, i4, g4, e4, ht, a4, b4⟩ := spec_l01Byte_some l hl i3 g3 a3 b3
      rw [if_neg hs, e1]
      simp only [Option.bind_some, e2, e3, e4]
      rw [if_neg (by omega)]
      refine ⟨_, _, _, rfl, ?_, a4, b4⟩
      have hw : 0 ≤ wrap64 (wrap64 (wrap64 (wrap64 (x * 16777216) + wrap64 (y * 65536)) + wrap64 (z * 256)) + t) := by
        unfold wrap64
        omega
      rw [Int.tmod_eq_emod_of_nonneg hw]
      exact ⟨Int.emod_nonneg _ (by omega), fun q => by omega, fun q => Int.emod_lt_of_pos _ q⟩
theorem spec_DrawPlaces_l0 (l : List Int) (hl : l.length ≤ 1048576) : ∀ (d k i : Nat) (out : List Int) (j h : Int), d + 1 ≤ k → i + d = 12 → out.length = i → (∀ x ∈ out, 0 ≤ x ∧ x < 10000) → 0 ≤ j → j ≤ l.length →
    ∃ r, spec_DrawPlaces.l0 k out i l j h = some r ∧ r.length = 12 ∧ ∀ x ∈ r, 0 ≤ x ∧ x < 10000 := by
  intro d
  induction d with
  | zero =>
    intro k i out j h hk hi ho hall h0 h1
    obtain ⟨k, rfl⟩ : ∃ m, k = m + 1 := ⟨k - 1, by omega⟩
    simp only [spec_DrawPlaces.l0]
    rw [if_neg (by omega)]
    exact ⟨out, rfl, by omega, hall⟩
  | succ d ih =>
    intro k i out j h hk hi ho hall h0 h1
    obtain ⟨k, rfl⟩ : ∃ m, k = m + 1 := ⟨k - 1, by omega⟩
    simp only [spec_DrawPlaces.l0]
    obtain ⟨x, j1, g1, e1, hx, a1, b1⟩ := spec_l01Below_some l hl j h 10000 h0 h1
    rw [if_pos (by omega), e1]
    simp only [Option.bind_some]
    rw [if_pos (by omega), wrap_nat i (by omega)]
    refine ih k (i + 1) _ j1 g1 (by omega) (by omega) (by simp [ho]) (fun y hy => ?_) a1 b1
    rcases List.mem_append.1 hy with hy | hy
    · exact hall y hy
    · simp at hy
      rw [hy]
      exact ⟨hx.1, hx.2.2 (by omega)⟩
theorem spec_DrawPlaces_some (l : List Int) (hl : l.length ≤ 1048576) (k : Nat) (hk : 5000 ≤ k) : ∃ r, spec_DrawPlaces.f k l = some r ∧ r.length = 12 ∧ ∀ x ∈ r, 0 ≤ x ∧ x < 10000 := by
  unfold spec_DrawPlaces.f
  obtain ⟨h, e⟩ := spec_l01New_some l hl k hk
  obtain ⟨x, j1, g1, e1, hx, a1, b1⟩ := spec_l01Byte_some l hl 0 h (by omega) (by omega)
  rw [e]
  simp only [Option.bind_some, e1]
  exact spec_DrawPlaces_l0 l hl 12 k 0 [] j1 g1 (by omega) (by omega) rfl (by simp) a1 b1
theorem impl_remainder_eq (a m : Int) (h : 0 < m) (hm : m ≤ 1000000) : impl_remainder.f a m = some (a % m) := by
  unfold impl_remainder.f
  rw [if_neg (by omega), tm_eq a m h]
  have h0 := Int.emod_nonneg a (show m ≠ 0 by omega)
  have h1 := Int.emod_lt_of_pos a h
  by_cases hc : 0 ≤ a ∨ m ∣ a
  · rw [if_pos hc, if_neg (by omega)]
    simp
  · rw [if_neg hc, if_pos (by omega)]
    unfold wrap64
    congr 1
    omega
theorem impl_FpOf_eq (a : Int) : impl_FpOf.f a = some (a % 12107) := by
  unfold impl_FpOf.f
  rw [impl_remainder_eq a 12107 (by omega) (by omega)]
  rfl
theorem impl_FpMul_eq (a b : Int) : impl_FpMul.f a b = some ((a * b) % 12107) := by
  unfold impl_FpMul.f
  simp only [impl_FpOf_eq, Option.bind_some]
  have h0 := Int.emod_nonneg a (show (12107 : Int) ≠ 0 by omega)
  have h1 := Int.emod_lt_of_pos a (show (0 : Int) < 12107 by omega)
  have h2 := Int.emod_nonneg b (show (12107 : Int) ≠ 0 by omega)
  have h3 := Int.emod_lt_of_pos b (show (0 : Int) < 12107 by omega)
  rw [show wrap64 ((a % 12107) * (b % 12107)) = (a % 12107) * (b % 12107) from wrap_mul _ _ 12107 (by omega) h0 h1 h2 h3]
  exact congrArg some (Int.mul_emod a b 12107).symm
theorem impl_powerMod_l0 (m : Int) (hm : 0 < m) (hm2 : m ≤ 100000) : ∀ (d k : Nat) (x n r : Int), d < k → 0 ≤ n → n < 2 ^ d → n ≤ 9223372036854775807 → 0 ≤ x → x < m → 0 ≤ r → r < m →
    impl_powerMod.l0 k x n m r = some (r * x ^ n.toNat % m) := by
  intro d
  induction d with
  | zero =>
    intro k x n r hk h0 h1 _ _ _ hr0 hr1
    obtain ⟨k, rfl⟩ : ∃ j, k = j + 1 := ⟨k - 1, by omega⟩
    obtain rfl : n = 0 := by omega
    simp only [impl_powerMod.l0]
    rw [if_neg (by omega)]
    simp [Int.emod_eq_of_lt hr0 hr1]
  | succ d ih =>
    intro k x n r hk h0 h1 hb hx0 hx1 hr0 hr1
    obtain ⟨k, rfl⟩ : ∃ j, k = j + 1 := ⟨k - 1, by omega⟩
    rw [Int.pow_succ] at h1
    simp only [impl_powerMod.l0]
    by_cases hn : n > 0
    · have hm0 : ¬ m = 0 := by omega
      rw [if_pos hn]
      have e2 : Int.tmod n 2 = n % 2 := Int.tmod_eq_emod_of_nonneg h0
      have e3 : wrap64 (Int.tdiv n 2) = n / 2 := by
        rw [Int.tdiv_eq_ediv_of_nonneg h0]; unfold wrap64; omega
      have sq : Int.tmod (wrap64 (x * x)) m = x * x % m := by
        rw [wrap_mul x x m (by omega) hx0 hx1 hx0 hx1, Int.tmod_eq_emod_of_nonneg (Int.mul_nonneg hx0 hx0)]
      have rx : Int.tmod (wrap64 (r * x)) m = r * x % m := by
        rw [wrap_mul r x m (by omega) hr0 hr1 hx0 hx1, Int.tmod_eq_emod_of_nonneg (Int.mul_nonneg hr0 hx0)]
      rw [e2, e3, sq, rx]
      have p0 := Int.emod_nonneg (x * x) (show m ≠ 0 by omega)
      have p1 := Int.emod_lt_of_pos (x * x) hm
      have q0 := Int.emod_nonneg (r * x) (show m ≠ 0 by omega)
      have q1 := Int.emod_lt_of_pos (r * x) hm
      have hp : x ^ n.toNat = x ^ (n.toNat % 2) * (x * x) ^ (n / 2).toNat := by
        rw [pow_half x n.toNat]
        congr 2
        omega
      by_cases ho : n % 2 = 1
      · rw [if_pos ho, if_neg hm0, ih k _ _ _ (by omega) (by omega) (by omega) (by omega) p0 p1 q0 q1, hp, show n.toNat % 2 = 1 by omega]
        congr 1
        rw [Int.pow_succ, Int.pow_zero, Int.one_mul, emod_mul_l, ← emod_mul_r, emod_pow, emod_mul_r, Int.mul_assoc]
      · rw [if_neg ho, if_neg hm0, ih k _ _ _ (by omega) (by omega) (by omega) (by omega) p0 p1 hr0 hr1, hp, show n.toNat % 2 = 0 by omega]
        congr 1
        rw [Int.pow_zero, Int.one_mul, ← emod_mul_r, emod_pow, emod_mul_r]
    · rw [if_neg hn]
      obtain rfl : n = 0 := by omega
      simp [Int.emod_eq_of_lt hr0 hr1]
theorem impl_powerMod_eq (k : Nat) (hk : 63 < k) (a n m : Int) (hm : 1 < m) (hm2 : m ≤ 100000) (h0 : 0 ≤ n) (hb : n ≤ 9223372036854775807) : impl_powerMod.f k a n m = some (a ^ n.toNat % m) := by
  unfold impl_powerMod.f
  rw [impl_remainder_eq a m (by omega) (by omega)]
  simp only [Option.bind_some]
  rw [impl_powerMod_l0 m (by omega) hm2 63 k _ n 1 hk h0 (by omega) hb (Int.emod_nonneg a (by omega)) (Int.emod_lt_of_pos a (by omega)) (by omega) (by omega)]
  rw [Int.one_mul, emod_pow]
theorem impl_FpRoot_eq (k : Nat) (hk : 63 < k) (a : Int) : impl_FpRoot.f k a = some (rootOf a) := by
  unfold impl_FpRoot.f rootOf
  rw [impl_powerMod_eq k hk a 3027 12107 (by omega) (by omega) (by omega) (by omega)]
  simp only [impl_FpMul_eq, impl_FpOf_eq, Option.bind_some, show (3027 : Int).toNat = 3027 from rfl]
  have h0 := Int.emod_nonneg (a ^ 3027) (show (12107 : Int) ≠ 0 by omega)
  have h1 := Int.emod_lt_of_pos (a ^ 3027) (show (0 : Int) < 12107 by omega)
  have e : wrap64 (-(a ^ 3027 % 12107)) = 0 - a ^ 3027 % 12107 := by
    unfold wrap64
    omega
  rw [e]
  split
  · unfold mn
    split <;> rfl
  · rfl
theorem spec_l01PickInt_some (l : List Int) (hl : l.length ≤ 1048576) (i h : Int) (q : List Int) (hq : 0 < q.length) (h0 : 0 ≤ i) (h1 : i ≤ l.length) (hall : ∀ x ∈ q, IsInt x) : ∃ x i' h', spec_l01PickInt.f l i h q = some (x, i', h') ∧ IsInt x ∧ 0 ≤ i' ∧ i' ≤ l.length := by
  unfold spec_l01PickInt.f
  obtain ⟨x, j1, g1, e1, hx, a1, b1⟩ := spec_l01Below_some l hl i h q.length h0 h1
  rw [e1]
  have := hx.2.2 (by omega)
  simp only [Option.bind_some]
  rw [if_pos hx.1, if_pos this]
  refine ⟨_, _, _, rfl, hall _ ?_, a1, b1⟩
  unfold rd
  rw [List.getD_eq_getElem?_getD, List.getElem?_eq_getElem (by omega)]
  exact List.getElem_mem _
theorem spec_l04Num_some (l : List Int) (hl : l.length ≤ 1048576) (i h : Int) (h0 : 0 ≤ i) (h1 : i ≤ l.length) : ∃ x i' h', spec_l04Num.f l i h = some (x, i', h') ∧ IsInt x ∧ 0 ≤ i' ∧ i' ≤ l.length := by
  unfold spec_l04Num.f
  obtain ⟨x, j1, g1, e1, hx, a1, b1⟩ := spec_l01Below_some l hl i h 256 h0 h1
  obtain ⟨y, j2, g2, e2, hy, a2, b2⟩ := spec_l01Below_some l hl j1 g1 256 a1 b1
  rw [e1]
  simp only [Option.bind_some, e2]
  obtain ⟨z, j3, g3, e3, hz, a3, b3⟩ := spec_l01PickInt_some l hl j2 g2 _ (by simp) a2 b2 (l04_ints x y)
  rw [e3]
  exact ⟨_, _, _, rfl, hz, a3, b3⟩
theorem spec_DrawFpRoot_some (l : List Int) (hl : l.length ≤ 1048576) (k : Nat) (hk : 5000 ≤ k) : ∃ x, spec_DrawFpRoot.f k l = some x := by
  unfold spec_DrawFpRoot.f
  obtain ⟨h, e⟩ := spec_l01New_some l hl k hk
  obtain ⟨x, j1, g1, e1, hx, a1, b1⟩ := spec_l04Num_some l hl 0 h (by omega) (by omega)
  rw [e]
  simp only [Option.bind_some, e1]
  exact ⟨_, rfl⟩
theorem spec_FpOf_eq (a : Int) : spec_FpOf.f a = some (a % 12107) := by
  unfold spec_FpOf.f
  rw [tm_eq a 12107 (by omega)]
  have h0 := Int.emod_nonneg a (show (12107 : Int) ≠ 0 by omega)
  have h1 := Int.emod_lt_of_pos a (show (0 : Int) < 12107 by omega)
  by_cases h : 0 ≤ a ∨ (12107 : Int) ∣ a
  · rw [if_pos h, if_neg (by omega)]
    simp
  · rw [if_neg h, if_pos (by omega)]
    unfold wrap64
    congr 1
    omega
theorem spec_FpMul_eq (a b : Int) : spec_FpMul.f a b = some ((a * b) % 12107) := by
  unfold spec_FpMul.f
  simp only [spec_FpOf_eq, Option.bind_some]
  have h0 := Int.emod_nonneg a (show (12107 : Int) ≠ 0 by omega)
  have h1 := Int.emod_lt_of_pos a (show (0 : Int) < 12107 by omega)
  have h2 := Int.emod_nonneg b (show (12107 : Int) ≠ 0 by omega)
  have h3 := Int.emod_lt_of_pos b (show (0 : Int) < 12107 by omega)
  rw [show wrap64 ((a % 12107) * (b % 12107)) = (a % 12107) * (b % 12107) from wrap_mul _ _ 12107 (by omega) h0 h1 h2 h3]
  exact congrArg some (Int.mul_emod a b 12107).symm
theorem spec_FpPow_l0 : ∀ (d k : Nat) (x n r : Int), d < k → 0 ≤ n → n < 2 ^ d → n ≤ 9223372036854775807 → 0 ≤ r → r < 12107 →
    spec_FpPow.l0 k n r x = some (r * x ^ n.toNat % 12107) := by
  intro d
  induction d with
  | zero =>
    intro k x n r hk h0 h1 _ hr0 hr1
    obtain ⟨k, rfl⟩ : ∃ j, k = j + 1 := ⟨k - 1, by omega⟩
    obtain rfl : n = 0 := by omega
    simp only [spec_FpPow.l0]
    rw [if_neg (by omega)]
    simp [Int.emod_eq_of_lt hr0 hr1]
  | succ d ih =>
    intro k x n r hk h0 h1 hb hr0 hr1
    obtain ⟨k, rfl⟩ : ∃ j, k = j + 1 := ⟨k - 1, by omega⟩
    rw [Int.pow_succ] at h1
    simp only [spec_FpPow.l0]
    by_cases hn : n > 0
    · rw [if_pos hn]
      have e2 : Int.tmod n 2 = n % 2 := Int.tmod_eq_emod_of_nonneg h0
      have e3 : wrap64 (Int.tdiv n 2) = n / 2 := by
        rw [Int.tdiv_eq_ediv_of_nonneg h0]; unfold wrap64; omega
      rw [e2, e3]
      simp only [spec_FpMul_eq, Option.bind_some]
      have q0 := Int.emod_nonneg (r * x) (show (12107 : Int) ≠ 0 by omega)
      have q1 := Int.emod_lt_of_pos (r * x) (show (0 : Int) < 12107 by omega)
      have hp : x ^ n.toNat = x ^ (n.toNat % 2) * (x * x) ^ (n / 2).toNat := by
        rw [pow_half x n.toNat]
        congr 2
        omega
      by_cases ho : n % 2 = 1
      · rw [if_pos ho, ih k _ _ _ (by omega) (by omega) (by omega) (by omega) q0 q1, hp, show n.toNat % 2 = 1 by omega]
        congr 1
        rw [Int.pow_succ, Int.pow_zero, Int.one_mul, emod_mul_l, ← emod_mul_r, emod_pow, emod_mul_r, Int.mul_assoc]
      · rw [if_neg ho, ih k _ _ _ (by omega) (by omega) (by omega) (by omega) hr0 hr1, hp, show n.toNat % 2 = 0 by omega]
        congr 1
        rw [Int.pow_zero, Int.one_mul, ← emod_mul_r, emod_pow, emod_mul_r]
    · rw [if_neg hn]
      obtain rfl : n = 0 := by omega
      simp [Int.emod_eq_of_lt hr0 hr1]
theorem spec_FpPow_eq (k : Nat) (hk : 63 < k) (a n : Int) (hb : n ≤ 9223372036854775807) : spec_FpPow.f k a n = some (if n < 0 then 0 else a ^ n.toNat % 12107) := by
  unfold spec_FpPow.f
  by_cases hn : n < 0
  · rw [if_pos hn, if_pos hn]
  · rw [if_neg hn, if_neg hn, spec_FpOf_eq]
    simp only [Option.bind_some]
    rw [spec_FpPow_l0 63 k _ n 1 hk (by omega) (by omega) hb (by omega) (by omega), Int.one_mul, emod_pow]
theorem spec_FpSub_eq (a b : Int) : spec_FpSub.f a b = some ((a - b) % 12107) := by
  unfold spec_FpSub.f
  simp only [spec_FpOf_eq, Option.bind_some]
  have h0 := Int.emod_nonneg a (show (12107 : Int) ≠ 0 by omega)
  have h1 := Int.emod_lt_of_pos a (show (0 : Int) < 12107 by omega)
  have h2 := Int.emod_nonneg b (show (12107 : Int) ≠ 0 by omega)
  have h3 := Int.emod_lt_of_pos b (show (0 : Int) < 12107 by omega)
  rw [show wrap64 ((a % 12107) - (b % 12107)) = (a % 12107) - (b % 12107) from by unfold wrap64; omega]
  exact congrArg some (Int.sub_emod a b 12107).symm
theorem spec_FpRoot_eq (k : Nat) (hk : 63 < k) (a : Int) : spec_FpRoot.f k a = some (rootOf a) := by
  unfold spec_FpRoot.f rootOf
  rw [spec_FpPow_eq k hk a 3027 (by omega)]
  simp only [spec_FpMul_eq, spec_FpSub_eq, spec_FpOf_eq, Option.bind_some, show ¬ (3027 : Int) < 0 by omega, if_false, show (3027 : Int).toNat = 3027 from rfl]
  split
  · rename_i h
    have h0 := Int.emod_nonneg (a ^ 3027) (show (12107 : Int) ≠ 0 by omega)
    have h1 := Int.emod_lt_of_pos (a ^ 3027) (show (0 : Int) < 12107 by omega)
    split <;> rfl
  · rfl
theorem impl_FpAdd_eq (a b : Int) : impl_FpAdd.f a b = some ((a + b) % 12107) := by
  unfold impl_FpAdd.f
  simp only [impl_FpOf_eq, Option.bind_some]
  have h0 := Int.emod_nonneg a (show (12107 : Int) ≠ 0 by omega)
  have h1 := Int.emod_lt_of_pos a (show (0 : Int) < 12107 by omega)
  have h2 := Int.emod_nonneg b (show (12107 : Int) ≠ 0 by omega)
  have h3 := Int.emod_lt_of_pos b (show (0 : Int) < 12107 by omega)
  rw [show wrap64 ((a % 12107) + (b % 12107)) = (a % 12107) + (b % 12107) from by unfold wrap64; omega]
  exact congrArg some (Int.add_emod a b 12107).symm
theorem FnRoots : laws_FnRoots.Pure := by
  intro l _ _ _
  refine ⟨5000, ?_⟩
  unfold laws_FnRoots.f
  rw [laws_big_eq]
  simp only [Option.bind_some]
  by_cases hb : (l.length : Int) > 1048576
  · rw [if_pos (decide_eq_true hb)]
  rw [if_neg (by simp [hb])]
  obtain ⟨p, hp, hlen, hall⟩ := spec_DrawPlaces_some l (by omega) 5000 (by omega)
  obtain ⟨x, hx⟩ := spec_DrawFpRoot_some l (by omega) 5000 (by omega)
  rw [hp]
  simp only [Option.bind_some]
  rw [if_pos (by omega), if_pos (by omega)]
  have h0 : 0 ≤ rd p 0 ∧ rd p 0 < 10000 := rd_range hall 0 (by omega)
  have h1 : 0 ≤ rd p 1 ∧ rd p 1 < 10000 := rd_range hall 1 (by omega)
  generalize rd p 0 = a0 at h0 ⊢
  generalize rd p 1 = b0 at h1 ⊢
  rw [Int.tmod_eq_emod_of_nonneg h0.1, Int.tmod_eq_emod_of_nonneg h1.1, show wrap64 (1 + a0 % 12106) = 1 + a0 by unfold wrap64; omega, show wrap64 (1 + b0 % 12106) = 1 + b0 by unfold wrap64; omega]
  have ha0 : 1 ≤ 1 + a0 := by omega
  have ha1 : 1 + a0 < 12107 := by omega
  have ha : (1 + a0) % 12107 ≠ 0 := by omega
  have hbz : (1 + b0) % 12107 ≠ 0 := by omega
  have ham : (1 + a0) % 12107 = 1 + a0 := by omega
  generalize 1 + a0 = a at ha0 ha1 ha ham ⊢
  generalize 1 + b0 = b at hbz ⊢
  obtain ⟨r1, r2⟩ := root_of_square a ha0 ha1
  have r3 := root_product a b ha hbz
  simp only [impl_FpMul_eq, impl_FpAdd_eq, impl_FpRoot_eq 5000 (show 63 < 5000 by omega), spec_FpRoot_eq 5000 (show 63 < 5000 by omega), hx, Option.bind_some]
  rw [if_pos r1, r3]
  have inner : (if (rootOf a).2 = true then (if (rootOf a).1 * (rootOf a).1 % 12107 = a then (if ((((rootOf a).2 == (rootOf b).2) == ((rootOf a).2 == (rootOf b).2)) = true) then (if ((rootOf x).2 == (rootOf x).2) = true then some ((rootOf x).1 == (rootOf x).1) else some false) else some false) else some false)
      else (if ((((rootOf a).2 == (rootOf b).2) == ((rootOf a).2 == (rootOf b).2)) = true) then (if ((rootOf x).2 == (rootOf x).2) = true then some ((rootOf x).1 == (rootOf x).1) else some false) else some false)) = some true := by
    by_cases hm : (rootOf a).2 = true
    · rw [if_pos hm, if_pos ((root_square a hm).trans ham)]
      simp
    · rw [if_neg hm]
      simp
  by_cases hr : (rootOf (a * a % 12107)).1 = a
  · rw [if_pos hr]
    exact inner
  · rw [if_neg hr, if_pos (by
      rcases r2 with q | q
      · exact absurd q hr
      · exact q)]
    exact inner

end Go.Proofs.Ytfigfpfgeoadbaa.Pure
