/- Proved: the law FnScalars answers true at every draw: numbers modulo 1009 make a field, and what is put together of lists goes one by one. Conditions: none. -/
import Derived.Test.YtfigfpfgeoadbaaQFnScalarsx3
import Derived.Test.YtfigfpfgeoadbaaMod
import Derived.Test.YtfigfpfgeoadbaaFermat9
import Derived.Test.YtfigfpfgeoadbaaDraw
import Derived.Test.YtfigfpfgeoadbaaDot
set_option linter.unusedVariables false
set_option linter.unusedSimpArgs false
namespace Go.Proofs.Ytfigfpfgeoadbaa.Pure
open Go.RowKit Go.Proofs.Ytfigfpfgeoadbaa.PFnScalars Go.Proofs.YtfigfpfgeoadbaaW.PrintWords Go.Proofs.YtfigfpfgeoadbaaW.PrintLast Go.Proofs.YtfigfpfgeoadbaaW.PrintMore
open Go.Proofs.Ytfigfpfgeoadbaa.M

theorem laws_big_eq (l : List Int) : laws_big.f l = some (decide ((l.length : Int) > 1048576)) := rfl
theorem spec_l01New_l0 (l : List Int) (hl : l.length ≤ 1048576) : ∀ (d k i : Nat) (h : Int), d + 1 ≤ k → i + d = 4000 → ∃ h', spec_l01New.l0 k l h i = some (l, 0, h') := by
  intro d
  induction d with
  | zero =>
    intro k i h hk hi
    obtain ⟨k, rfl⟩ : ∃ j, k = j + 1 := ⟨k - 1, by omega⟩
    refine ⟨h, ?_⟩
    simp only [spec_l01New.l0]
    by_cases hlt : (i : Int) < l.length
    · rw [if_pos hlt, if_neg (by omega)]
    · rw [if_neg hlt]
  | succ d ih =>
    intro k i h hk hi
    obtain ⟨k, rfl⟩ : ∃ j, k = j + 1 := ⟨k - 1, by omega⟩
    simp only [spec_l01New.l0]
    by_cases hlt : (i : Int) < l.length
    · rw [if_pos hlt, if_pos (by omega), if_pos (by omega), wrap_nat i (by omega)]
      exact ih k (i + 1) _ (by omega) (by omega)
    · rw [if_neg hlt]
      exact ⟨h, rfl⟩
theorem spec_l01New_some (l : List Int) (hl : l.length ≤ 1048576) (k : Nat) (hk : 5000 ≤ k) : ∃ h, spec_l01New.f k l = some (l, 0, h) :=
  spec_l01New_l0 l hl 4000 k 0 _ (by omega) (by omega)
theorem spec_l01Byte_some (l : List Int) (hl : l.length ≤ 1048576) (i h : Int) (h0 : 0 ≤ i) (h1 : i ≤ l.length) : ∃ x i' h', spec_l01Byte.f l i h = some (x, i', h') ∧ (0 ≤ x ∧ x ≤ 255) ∧ 0 ≤ i' ∧ i' ≤ l.length := by
  unfold spec_l01Byte.f
  by_cases hlt : i < (l.length : Int)
  · rw [if_pos hlt, if_pos h0]
    refine ⟨_, _, _, rfl, and255 _, ?_⟩
    unfold wrap64
    omega
  · rw [if_neg hlt]
    exact ⟨_, _, _, rfl, and255 _, h0, h1⟩
theorem spec_l01Below_some (l : List Int) (hl : l.length ≤ 1048576) (i h n : Int) (h0 : 0 ≤ i) (h1 : i ≤ l.length) : ∃ x i' h', spec_l01Below.f l i h n = some (x, i', h') ∧ (0 ≤ x ∧ (n ≤ 0 → x = 0) ∧ (0 < n → x < n)) ∧ 0 ≤ i' ∧ i' ≤ l.length := by
  unfold spec_l01Below.f
  by_cases hn : n ≤ 0
  · rw [if_pos hn]
    exact ⟨_, _, _, rfl, ⟨by omega, fun _ => rfl, fun q => by omega⟩, h0, h1⟩
  · rw [if_neg hn]
    obtain ⟨x, i1, g1, e1, hx, a1, b1⟩ := spec_l01Byte_some l hl i h h0 h1
    by_cases hs : n ≤ 256
    · rw [if_pos hs, e1]
      simp only [Option.bind_some]
      rw [if_neg (by omega)]
      refine ⟨_, _, _, rfl, ?_, a1, b1⟩
      rw [Int.tmod_eq_emod_of_nonneg hx.1]
      exact ⟨Int.emod_nonneg _ (by omega), fun q => by omega, fun q => Int.emod_lt_of_pos _ q⟩
    · obtain ⟨y, i2, g2, e2, hy, a2, b2⟩ := spec_l01Byte_some l hl i1 g1 a1 b1
      obtain ⟨z, i3, g3, e3, hz, a3, b3⟩ := spec_l01Byte_some l hl i2 g2 a2 b2
      obtain ⟨t, i4, g4, e4, ht, a4, b4⟩ := spec_l01Byte_some l hl i3 g3 a3 b3
      rw [if_neg hs, e1]
      simp only [Option.bind_some, e2, e3, e4]
      rw [if_neg (by omega)]
      refine ⟨_, _, _, rfl, ?_, a4, b4⟩
      have hw : 0 ≤ wrap64 (wrap64 (wrap64 (wrap64 (x * 16777216) + wrap64 (y * 65536)) + wrap64 (z * 256)) + t) := by
        unfold wrap64
        omega
      rw [Int.tmod_eq_emod_of_nonneg hw]
      exact ⟨Int.emod_nonneg _ (by omega), fun q => by omega, fun q => Int.emod_lt_of_pos _ q⟩
theorem spec_DrawPlaces_l0 (l : List Int) (hl : l.length ≤ 1048576) : ∀ (d k i : Nat) (out : List Int) (j h : Int), d + 1 ≤ k → i + d = 12 → out.length = i → (∀ x ∈ out, 0 ≤ x ∧ x < 10000) → 0 ≤ j → j ≤ l.length →
    ∃ r, spec_DrawPlaces.l0 k out i l j h = some r ∧ r.length = 12 ∧ ∀ x ∈ r, 0 ≤ x ∧ x < 10000 := by
  intro d
  induction d with
  | zero =>
    intro k i out j h hk hi ho hall h0 h1
    obtain ⟨k, rfl⟩ : ∃ m, k = m + 1 := ⟨k - 1, by omega⟩
    simp only [spec_DrawPlaces.l0]
    rw [if_neg (by omega)]
    exact ⟨out, rfl, by omega, hall⟩
  | succ d ih =>
    intro k i out j h hk hi ho hall h0 h1
    obtain ⟨k, rfl⟩ : ∃ m, k = m + 1 := ⟨k - 1, by omega⟩
    simp only [spec_DrawPlaces.l0]
    obtain ⟨x, j1, g1, e1, hx, a1, b1⟩ := spec_l01Below_some l hl j h 10000 h0 h1
    rw [if_pos (by omega), e1]
    simp only [Option.bind_some]
    rw [if_pos (by omega), wrap_nat i (by omega)]
    refine ih k (i + 1) _ j1 g1 (by omega) (by omega) (by simp [ho]) (fun y hy => ?_) a1 b1
    rcases List.mem_append.1 hy with hy | hy
    · exact hall y hy
    · simp at hy
      rw [hy]
      exact ⟨hx.1, hx.2.2 (by omega)⟩
theorem spec_DrawPlaces_some (l : List Int) (hl : l.length ≤ 1048576) (k : Nat) (hk : 5000 ≤ k) : ∃ r, spec_DrawPlaces.f k l = some r ∧ r.length = 12 ∧ ∀ x ∈ r, 0 ≤ x ∧ x < 10000 := by
  unfold spec_DrawPlaces.f
  obtain ⟨h, e⟩ := spec_l01New_some l hl k hk
  obtain ⟨x, j1, g1, e1, hx, a1, b1⟩ := spec_l01Byte_some l hl 0 h (by omega) (by omega)
  rw [e]
  simp only [Option.bind_some, e1]
  exact spec_DrawPlaces_l0 l hl 12 k 0 [] j1 g1 (by omega) (by omega) rfl (by simp) a1 b1
theorem spec_l01PickInt_some (l : List Int) (hl : l.length ≤ 1048576) (i h : Int) (q : List Int) (hq : 0 < q.length) (h0 : 0 ≤ i) (h1 : i ≤ l.length) (hall : ∀ x ∈ q, IsInt x) : ∃ x i' h', spec_l01PickInt.f l i h q = some (x, i', h') ∧ IsInt x ∧ 0 ≤ i' ∧ i' ≤ l.length := by
  unfold spec_l01PickInt.f
  obtain ⟨x, j1, g1, e1, hx, a1, b1⟩ := spec_l01Below_some l hl i h q.length h0 h1
  rw [e1]
  have := hx.2.2 (by omega)
  simp only [Option.bind_some]
  rw [if_pos hx.1, if_pos this]
  refine ⟨_, _, _, rfl, hall _ ?_, a1, b1⟩
  unfold rd
  rw [List.getD_eq_getElem?_getD, List.getElem?_eq_getElem (by omega)]
  exact List.getElem_mem _
theorem spec_l06Num_some (l : List Int) (hl : l.length ≤ 1048576) (i h : Int) (h0 : 0 ≤ i) (h1 : i ≤ l.length) : ∃ x i' h', spec_l06Num.f l i h = some (x, i', h') ∧ IsInt x ∧ 0 ≤ i' ∧ i' ≤ l.length := by
  unfold spec_l06Num.f
  obtain ⟨x, j1, g1, e1, hx, a1, b1⟩ := spec_l01Below_some l hl i h 256 h0 h1
  rw [e1]
  simp only [Option.bind_some]
  obtain ⟨z, j3, g3, e3, hz, a3, b3⟩ := spec_l01PickInt_some l hl j1 g1 _ (by simp) a1 b1 (l06_ints x)
  rw [e3]
  exact ⟨_, _, _, rfl, hz, a3, b3⟩
theorem spec_l06List_l0 (l : List Int) (hl : l.length ≤ 1048576) : ∀ (d k i : Nat) (out : List Int) (j h : Int), d + 1 ≤ k → i + d = 6 → out.length = i → 0 ≤ j → j ≤ l.length →
    ∃ r j' h', spec_l06List.l0 k out i l j h = some (r, j', h') ∧ r.length ≤ 6 ∧ 0 ≤ j' ∧ j' ≤ l.length := by
  intro d
  induction d with
  | zero =>
    intro k i out j h hk hi ho h0 h1
    obtain ⟨k, rfl⟩ : ∃ m, k = m + 1 := ⟨k - 1, by omega⟩
    simp only [spec_l06List.l0]
    obtain ⟨x, j1, g1, e1, hx, a1, b1⟩ := spec_l01Below_some l hl j h 6 h0 h1
    have := hx.2.2 (by omega)
    rw [e1]
    simp only [Option.bind_some]
    rw [if_neg (by omega)]
    exact ⟨_, _, _, rfl, by omega, a1, b1⟩
  | succ d ih =>
    intro k i out j h hk hi ho h0 h1
    obtain ⟨k, rfl⟩ : ∃ m, k = m + 1 := ⟨k - 1, by omega⟩
    simp only [spec_l06List.l0]
    obtain ⟨x, j1, g1, e1, hx, a1, b1⟩ := spec_l01Below_some l hl j h 6 h0 h1
    rw [e1]
    simp only [Option.bind_some]
    by_cases hlt : (i : Int) < x
    · rw [if_pos hlt]
      obtain ⟨y, j2, g2, e2, hy, a2, b2⟩ := spec_l06Num_some l hl j1 g1 a1 b1
      rw [e2]
      simp only [Option.bind_some]
      rw [if_pos (by omega), wrap_nat i (by omega)]
      exact ih k (i + 1) _ j2 g2 (by omega) (by omega) (by simp [ho]) a2 b2
    · rw [if_neg hlt]
      exact ⟨_, _, _, rfl, by omega, a1, b1⟩
theorem spec_l06List_some (l : List Int) (hl : l.length ≤ 1048576) (k : Nat) (hk : 10 ≤ k) (j h : Int) (h0 : 0 ≤ j) (h1 : j ≤ l.length) : ∃ r j' h', spec_l06List.f k l j h = some (r, j', h') ∧ r.length ≤ 6 ∧ 0 ≤ j' ∧ j' ≤ l.length :=
  spec_l06List_l0 l hl 6 k 0 [] j h (by omega) (by omega) rfl h0 h1
theorem spec_DrawScDot_some (l : List Int) (hl : l.length ≤ 1048576) (k : Nat) (hk : 5000 ≤ k) : ∃ x y, spec_DrawScDot.f k l = some (x, y) ∧ x.length ≤ 6 ∧ y.length ≤ 6 := by
  unfold spec_DrawScDot.f
  obtain ⟨h, e⟩ := spec_l01New_some l hl k hk
  obtain ⟨x, j1, g1, e1, hx, a1, b1⟩ := spec_l06List_some l hl k (by omega) 0 h (by omega) (by omega)
  obtain ⟨y, j2, g2, e2, hy, a2, b2⟩ := spec_l06List_some l hl k (by omega) j1 g1 a1 b1
  rw [e]
  simp only [Option.bind_some, e1, e2]
  exact ⟨_, _, rfl, hx, hy⟩
theorem impl_remainder_eq (a m : Int) (h : 0 < m) (hm : m ≤ 1000000) : impl_remainder.f a m = some (a % m) := by
  unfold impl_remainder.f
  rw [if_neg (by omega), tm_eq a m h]
  have h0 := Int.emod_nonneg a (show m ≠ 0 by omega)
  have h1 := Int.emod_lt_of_pos a h
  by_cases hc : 0 ≤ a ∨ m ∣ a
  · rw [if_pos hc, if_neg (by omega)]
    simp
  · rw [if_neg hc, if_pos (by omega)]
    unfold wrap64
    congr 1
    omega
theorem impl_ScOf_eq (a : Int) : impl_ScOf.f a = some (a % 1009) := by
  unfold impl_ScOf.f
  rw [impl_remainder_eq a 1009 (by omega) (by omega)]
  rfl
theorem impl_ScAdd_eq (a b : Int) : impl_ScAdd.f a b = some ((a + b) % 1009) := by
  unfold impl_ScAdd.f
  simp only [impl_ScOf_eq, Option.bind_some]
  have h0 := Int.emod_nonneg a (show (1009 : Int) ≠ 0 by omega)
  have h1 := Int.emod_lt_of_pos a (show (0 : Int) < 1009 by omega)
  have h2 := Int.emod_nonneg b (show (1009 : Int) ≠ 0 by omega)
  have h3 := Int.emod_lt_of_pos b (show (0 : Int) < 1009 by omega)
  rw [show wrap64 ((a % 1009) + (b % 1009)) = (a % 1009) + (b % 1009) from by unfold wrap64; omega]
  exact congrArg some (Int.add_emod a b 1009).symm
theorem impl_ScMul_eq (a b : Int) : impl_ScMul.f a b = some ((a * b) % 1009) := by
  unfold impl_ScMul.f
  simp only [impl_ScOf_eq, Option.bind_some]
  have h0 := Int.emod_nonneg a (show (1009 : Int) ≠ 0 by omega)
  have h1 := Int.emod_lt_of_pos a (show (0 : Int) < 1009 by omega)
  have h2 := Int.emod_nonneg b (show (1009 : Int) ≠ 0 by omega)
  have h3 := Int.emod_lt_of_pos b (show (0 : Int) < 1009 by omega)
  rw [show wrap64 ((a % 1009) * (b % 1009)) = (a % 1009) * (b % 1009) from wrap_mul _ _ 1009 (by omega) h0 h1 h2 h3]
  exact congrArg some (Int.mul_emod a b 1009).symm
theorem spec_l06Pair_some (l : List Int) (hl : l.length ≤ 1048576) (k : Nat) (hk : 5000 ≤ k) : ∃ x y, spec_l06Pair.f k l = some (x, y) ∧ IsInt x ∧ IsInt y := by
  unfold spec_l06Pair.f
  obtain ⟨h, e⟩ := spec_l01New_some l hl k hk
  obtain ⟨x, j1, g1, e1, hx, a1, b1⟩ := spec_l06Num_some l hl 0 h (by omega) (by omega)
  obtain ⟨y, j2, g2, e2, hy, a2, b2⟩ := spec_l06Num_some l hl j1 g1 a1 b1
  rw [e]
  simp only [Option.bind_some, e1, e2]
  exact ⟨_, _, rfl, hx, hy⟩
theorem spec_DrawScMul_some (l : List Int) (hl : l.length ≤ 1048576) (k : Nat) (hk : 5000 ≤ k) : ∃ x y, spec_DrawScMul.f k l = some (x, y) ∧ IsInt x ∧ IsInt y := by
  unfold spec_DrawScMul.f
  obtain ⟨x, y, e, hx, hy⟩ := spec_l06Pair_some l hl k hk
  rw [e]
  exact ⟨x, y, rfl, hx, hy⟩
theorem impl_powerMod_l0 (m : Int) (hm : 0 < m) (hm2 : m ≤ 100000) : ∀ (d k : Nat) (x n r : Int), d < k → 0 ≤ n → n < 2 ^ d → n ≤ 9223372036854775807 → 0 ≤ x → x < m → 0 ≤ r → r < m →
    impl_powerMod.l0 k x n m r = some (r * x ^ n.toNat % m) := by
  intro d
  induction d with
  | zero =>
    intro k x n r hk h0 h1 _ _ _ hr0 hr1
    obtain ⟨k, rfl⟩ : ∃ j, k = j + 1 := ⟨k - 1, by omega⟩
    obtain rfl : n = 0 := by omega
    simp only [impl_powerMod.l0]
    rw [if_neg (by omega)]
    simp [Int.emod_eq_of_lt hr0 hr1]
  | succ d ih =>
    intro k x n r hk h0 h1 hb hx0 hx1 hr0 hr1
    obtain ⟨k, rfl⟩ : ∃ j, k = j + 1 := ⟨k - 1, by omega⟩
    rw [Int.pow_succ] at h1
    simp only [impl_powerMod.l0]
    by_cases hn : n > 0
    · have hm0 : ¬ m = 0 := by omega
      rw [if_pos hn]
      have e2 : Int.tmod n 2 = n % 2 := Int.tmod_eq_emod_of_nonneg h0
      have e3 : wrap64 (Int.tdiv n 2) = n / 2 := by
        rw [Int.tdiv_eq_ediv_of_nonneg h0]; unfold wrap64; omega
      have sq : Int.tmod (wrap64 (x * x)) m = x * x % m := by
        rw [wrap_mul x x m (by omega) hx0 hx1 hx0 hx1, Int.tmod_eq_emod_of_nonneg (Int.mul_nonneg hx0 hx0)]
      have rx : Int.tmod (wrap64 (r * x)) m = r * x % m := by
        rw [wrap_mul r x m (by omega) hr0 hr1 hx0 hx1, Int.tmod_eq_emod_of_nonneg (Int.mul_nonneg hr0 hx0)]
      rw [e2, e3, sq, rx]
      have p0 := Int.emod_nonneg (x * x) (show m ≠ 0 by omega)
      have p1 := Int.emod_lt_of_pos (x * x) hm
      have q0 := Int.emod_nonneg (r * x) (show m ≠ 0 by omega)
      have q1 := Int.emod_lt_of_pos (r * x) hm
      have hp : x ^ n.toNat = x ^ (n.toNat % 2) * (x * x) ^ (n / 2).toNat := by
        rw [pow_half x n.toNat]
        congr 2
        omega
      by_cases ho : n % 2 = 1
      · rw [if_pos ho, if_neg hm0, ih k _ _ _ (by omega) (by omega) (by omega) (by omega) p0 p1 q0 q1, hp, show n.toNat % 2 = 1 by omega]
        congr 1
        rw [Int.pow_succ, Int.pow_zero, Int.one_mul, emod_mul_l, ← emod_mul_r, emod_pow, emod_mul_r, Int.mul_assoc]
      · rw [if_neg ho, if_neg hm0, ih k _ _ _ (by omega) (by omega) (by omega) (by omega) p0 p1 hr0 hr1, hp, show n.toNat % 2 = 0 by omega]
        congr 1
        rw [Int.pow_zero, Int.one_mul, ← emod_mul_r, emod_pow, emod_mul_r]
    · rw [if_neg hn]
      obtain rfl : n = 0 := by omega
      simp [Int.emod_eq_of_lt hr0 hr1]
theorem impl_powerMod_eq (k : Nat) (hk : 63 < k) (a n m : Int) (hm : 1 < m) (hm2 : m ≤ 100000) (h0 : 0 ≤ n) (hb : n ≤ 9223372036854775807) : impl_powerMod.f k a n m = some (a ^ n.toNat % m) := by
  unfold impl_powerMod.f
  rw [impl_remainder_eq a m (by omega) (by omega)]
  simp only [Option.bind_some]
  rw [impl_powerMod_l0 m (by omega) hm2 63 k _ n 1 hk h0 (by omega) hb (Int.emod_nonneg a (by omega)) (Int.emod_lt_of_pos a (by omega)) (by omega) (by omega)]
  rw [Int.one_mul, emod_pow]
theorem impl_ScInv_eq (k : Nat) (hk : 63 < k) (a : Int) : impl_ScInv.f k a = some (a ^ 1007 % 1009) := by
  unfold impl_ScInv.f
  rw [impl_powerMod_eq k hk a 1007 1009 (by omega) (by omega) (by omega) (by omega)]
  rfl
theorem impl_ScNeg_eq (a : Int) : impl_ScNeg.f a = some ((0 - a) % 1009) := by
  unfold impl_ScNeg.f
  simp only [impl_ScOf_eq, Option.bind_some]
  have h0 := Int.emod_nonneg a (show (1009 : Int) ≠ 0 by omega)
  have h1 := Int.emod_lt_of_pos a (show (0 : Int) < 1009 by omega)
  rw [show wrap64 (-(a % 1009)) = 0 - a % 1009 by unfold wrap64; omega, Int.sub_emod_emod]
theorem impl_ScDot_l0 (a b : List Int) (ha : a.length ≤ 1048576) : ∀ (d k : Nat) (i : Nat) (acc : Int), d + 1 ≤ k → i + d = min a.length b.length →
    impl_ScDot.l0 k a b acc (mn a.length b.length) i = some (dotN a b d i acc) := by
  intro d
  induction d with
  | zero =>
    intro k i acc hk hi
    obtain ⟨k, rfl⟩ : ∃ j, k = j + 1 := ⟨k - 1, by omega⟩
    simp only [impl_ScDot.l0, dotN]
    rw [if_neg (by unfold mn; split <;> omega)]
  | succ d ih =>
    intro k i acc hk hi
    obtain ⟨k, rfl⟩ : ∃ j, k = j + 1 := ⟨k - 1, by omega⟩
    simp only [impl_ScDot.l0, dotN]
    rw [if_pos (by unfold mn; split <;> omega), if_pos (by omega), if_pos (by omega), if_pos (by omega)]
    simp only [impl_ScMul_eq, impl_ScAdd_eq, Option.bind_some, rd]
    rw [wrap_nat i (by omega), ih k (i + 1) _ (by omega) (by omega)]
    rfl
theorem impl_ScDot_eq (a b : List Int) (ha : a.length ≤ 1048576) (k : Nat) (hk : 3000000 ≤ k) : impl_ScDot.f k a b = some (dotN a b (min a.length b.length) 0 0) :=
  impl_ScDot_l0 a b ha _ k 0 0 (by omega) (by omega)
theorem spec_ScOf_eq (a : Int) : spec_ScOf.f a = some (a % 1009) := by
  unfold spec_ScOf.f
  rw [tm_eq a 1009 (by omega)]
  have h0 := Int.emod_nonneg a (show (1009 : Int) ≠ 0 by omega)
  have h1 := Int.emod_lt_of_pos a (show (0 : Int) < 1009 by omega)
  by_cases h : 0 ≤ a ∨ (1009 : Int) ∣ a
  · rw [if_pos h, if_neg (by omega)]
    simp
  · rw [if_neg h, if_pos (by omega)]
    unfold wrap64
    congr 1
    omega
theorem spec_ScMul_eq (a b : Int) : spec_ScMul.f a b = some ((a * b) % 1009) := by
  unfold spec_ScMul.f
  simp only [spec_ScOf_eq, Option.bind_some]
  have h0 := Int.emod_nonneg a (show (1009 : Int) ≠ 0 by omega)
  have h1 := Int.emod_lt_of_pos a (show (0 : Int) < 1009 by omega)
  have h2 := Int.emod_nonneg b (show (1009 : Int) ≠ 0 by omega)
  have h3 := Int.emod_lt_of_pos b (show (0 : Int) < 1009 by omega)
  rw [show wrap64 ((a % 1009) * (b % 1009)) = (a % 1009) * (b % 1009) from wrap_mul _ _ 1009 (by omega) h0 h1 h2 h3]
  exact congrArg some (Int.mul_emod a b 1009).symm
theorem spec_ScAdd_eq (a b : Int) : spec_ScAdd.f a b = some ((a + b) % 1009) := by
  unfold spec_ScAdd.f
  simp only [spec_ScOf_eq, Option.bind_some]
  have h0 := Int.emod_nonneg a (show (1009 : Int) ≠ 0 by omega)
  have h1 := Int.emod_lt_of_pos a (show (0 : Int) < 1009 by omega)
  have h2 := Int.emod_nonneg b (show (1009 : Int) ≠ 0 by omega)
  have h3 := Int.emod_lt_of_pos b (show (0 : Int) < 1009 by omega)
  rw [show wrap64 ((a % 1009) + (b % 1009)) = (a % 1009) + (b % 1009) from by unfold wrap64; omega]
  exact congrArg some (Int.add_emod a b 1009).symm
theorem spec_ScDot_l0 (a b : List Int) (ha : a.length ≤ 1048576) : ∀ (d k : Nat) (i : Nat) (acc : Int), 2 * d + 2 ≤ k → i + d = min a.length b.length →
    spec_ScDot.l0 k a b acc i = some (dotN a b d i acc) := by
  intro d
  induction d with
  | zero =>
    intro k i acc hk hi
    obtain ⟨k, rfl⟩ : ∃ j, k = j + 2 := ⟨k - 2, by omega⟩
    simp only [spec_ScDot.l0, spec_ScDot.j1, dotN]
    by_cases h : (i : Int) < a.length
    · rw [if_pos h, decide_eq_false (by omega)]
      simp
    · rw [if_neg h]
      simp
  | succ d ih =>
    intro k i acc hk hi
    obtain ⟨k, rfl⟩ : ∃ j, k = j + 2 := ⟨k - 2, by omega⟩
    simp only [spec_ScDot.l0, spec_ScDot.j1, dotN]
    rw [if_pos (by omega), decide_eq_true (by omega), if_pos rfl, if_pos (by omega), if_pos (by omega), if_pos (by omega)]
    simp only [spec_ScMul_eq, spec_ScAdd_eq, Option.bind_some, rd]
    rw [wrap_nat i (by omega), ih k (i + 1) _ (by omega) (by omega)]
    rfl
theorem spec_ScDot_eq (a b : List Int) (ha : a.length ≤ 1048576) (k : Nat) (hk : 3000000 ≤ k) : spec_ScDot.f k a b = some (dotN a b (min a.length b.length) 0 0) :=
  spec_ScDot_l0 a b ha _ k 0 0 (by omega) (by omega)
theorem scalars_loop (l : List Int) (hl : l.length ≤ 1048576) (a b : Int) (ha0 : 0 < a) (ha1 : a < 1009) (hb0 : -5000 ≤ b) (hb1 : b ≤ 5000) (x y : List Int) (hx : x.length ≤ 6) (hy : y.length ≤ 6) : ∀ (d k i : Nat) (n : Int), 3000000 + 2 * d + 2 ≤ k → i + d = min x.length y.length → dotN x y d i n = dotN x y (min x.length y.length) 0 0 →
    laws_FnScalars.l0 k l a b x y n i = some true := by
  intro d
  induction d with
  | zero =>
    intro k i n hk hi hn
    obtain ⟨k, rfl⟩ : ∃ j, k = j + 2 := ⟨k - 2, by omega⟩
    have hend : laws_FnScalars.l0 (k + 2) l a b x y n i = laws_FnScalars.j1 (k + 1) l a b x y n i false := by
      simp only [laws_FnScalars.l0]
      by_cases h : (i : Int) < x.length
      · rw [if_pos h, decide_eq_false (by omega)]
      · rw [if_neg h]
    rw [hend]
    simp only [laws_FnScalars.j1]
    obtain ⟨u, v, huv, hu, hv⟩ := spec_DrawScMul_some l hl k (by omega)
    have e1 := inv_mul9 a ha0 ha1
    have e2 : (b + (0 - b) % 1009) % 1009 = 0 := by omega
    have e3 : a * ((b + 7) % 1009) % 1009 = (a * b % 1009 + a * 7 % 1009) % 1009 := by
      rw [emod_mul_r, Int.mul_add, Int.add_emod]
    have hn2 : n = dotN x y (min x.length y.length) 0 0 := hn
    have hz : (0 : Int) ^ 1007 % 1009 = 0 := by rw [Int.zero_pow (by decide)]; rfl
    rw [if_neg (by simp), huv]
    simp only [Option.bind_some, impl_ScInv_eq k (show 63 < k by omega), impl_ScMul_eq, impl_ScNeg_eq, impl_ScAdd_eq, impl_ScOf_eq, spec_ScOf_eq, spec_ScMul_eq, impl_ScDot_eq x y (by omega) k (show 3000000 ≤ k by omega), spec_ScDot_eq x y (by omega) k (show 3000000 ≤ k by omega), hz]
    rw [if_pos e1, if_pos e2, if_pos e3, if_pos hn2.symm, if_pos hn2, if_pos trivial, if_pos trivial]
    rfl
  | succ d ih =>
    intro k i n hk hi hn
    obtain ⟨k, rfl⟩ : ∃ j, k = j + 2 := ⟨k - 2, by omega⟩
    simp only [laws_FnScalars.l0, laws_FnScalars.j1]
    rw [if_pos (by omega), decide_eq_true (by omega), if_pos rfl, if_pos (by omega), if_pos (by omega), if_pos (by omega)]
    simp only [impl_ScMul_eq, impl_ScAdd_eq, Option.bind_some]
    rw [wrap_nat i (by omega)]
    refine ih k (i + 1) _ (by omega) (by omega) ?_
    rw [← hn]
    rfl
theorem FnScalars : laws_FnScalars.Pure := by
  intro l _ _ _
  obtain ⟨K, hK⟩ : ∃ k : Nat, 4000000 ≤ k := ⟨4000000, Nat.le_refl _⟩
  refine ⟨K, ?_⟩
  unfold laws_FnScalars.f
  rw [laws_big_eq]
  simp only [Option.bind_some]
  by_cases hb : (l.length : Int) > 1048576
  · rw [if_pos (decide_eq_true hb)]
  rw [if_neg (by simp [hb])]
  obtain ⟨p, hp, hlen, hall⟩ := spec_DrawPlaces_some l (by omega) K (by omega)
  obtain ⟨x, y, hxy, hx, hy⟩ := spec_DrawScDot_some l (by omega) K (by omega)
  rw [hp]
  simp only [Option.bind_some]
  rw [if_pos (by omega), if_pos (by omega), hxy]
  simp only [Option.bind_some]
  have h0 : 0 ≤ rd p 0 ∧ rd p 0 < 10000 := rd_range hall 0 (by omega)
  have h1 : 0 ≤ rd p 1 ∧ rd p 1 < 10000 := rd_range hall 1 (by omega)
  generalize rd p 0 = a0 at h0 ⊢
  generalize rd p 1 = b0 at h1 ⊢
  rw [Int.tmod_eq_emod_of_nonneg h0.1, show wrap64 (1 + a0 % 1008) = 1 + a0 % 1008 by unfold wrap64; omega, show wrap64 (b0 - 5000) = b0 - 5000 by unfold wrap64; omega]
  exact scalars_loop l (by omega) _ _ (by omega) (by omega) (by omega) (by omega) x y hx hy (min x.length y.length) K 0 0 (by omega) (by omega) rfl

end Go.Proofs.Ytfigfpfgeoadbaa.Pure
