/- Plain arithmetic: roots modulo 12107: a number that is not 0 to the power 6053 is 1 or -1, and it has a root just where it is 1. Conditions: none. -/
import Derived.Test.YtfigfpfgeoadbaaFermat
namespace Go.Proofs.Ytfigfpfgeoadbaa.M
/-- a to the power 6053 is 1 or -1 -/
theorem euler (a : Int) (h : a % 12107 ≠ 0) : a ^ 6053 % 12107 = 1 ∨ a ^ 6053 % 12107 = 12106 := by
  have h1 : a ^ 6053 * a ^ 6053 % 12107 = 1 := by rw [← Int.pow_add]; exact fermat a h
  have h0 := Int.emod_nonneg (a ^ 6053) (show (12107 : Int) ≠ 0 by omega)
  have hl := Int.emod_lt_of_pos (a ^ 6053) (show (0 : Int) < 12107 by omega)
  rw [← emod_mul_l, ← emod_mul_r] at h1
  generalize a ^ 6053 % 12107 = e at h0 hl h1 ⊢
  by_cases he : e = 1
  · exact Or.inl he
  · right
    have h2 : (e - 1) * (e + 1) % 12107 = 0 := by
      have q : (e - 1) * (e + 1) = e * e - 1 := by grind
      rw [q]
      omega
    have h3 := no_zero (e - 1) (e + 1) h2 (by omega)
    omega
/-- what FpRoot tries: the square of a to the power 3027 -/
theorem pow_6054 (a : Int) : a ^ 3027 * a ^ 3027 = a * a ^ 6053 := by
  have h : a ^ 3027 * a ^ 3027 = a ^ (3027 + 3027) := (Int.pow_add a 3027 3027).symm
  have k : a ^ (6053 + 1) = a ^ 6053 * a := Int.pow_succ a 6053
  have e : (3027 + 3027 : Nat) = 6053 + 1 := by decide
  rw [h, e, k, Int.mul_comm]
theorem root_sq (a : Int) : a ^ 3027 % 12107 * (a ^ 3027 % 12107) % 12107 = a * (a ^ 6053 % 12107) % 12107 := by
  have h : ∀ x y : Int, x * x = a * y → x % 12107 * (x % 12107) % 12107 = a * (y % 12107) % 12107 := by
    intro x y e
    rw [emod_mul_l, emod_mul_r, emod_mul_r, e]
  exact h _ _ (pow_6054 a)
theorem neg_ne (a : Int) (h : a % 12107 ≠ 0) : ¬ a * 12106 % 12107 = a % 12107 := by
  have e : a * 12106 = (0 - a) + a * 12107 := by omega
  rw [e, Int.add_mul_emod_self_right]
  intro q
  have h2 : 2 * a % 12107 = 0 := by
    rw [show 2 * a = a - (0 - a) from by omega, Int.sub_emod, q, Int.sub_self]
    rfl
  exact h (no_zero 2 a h2 (by decide))
/-- a number that is not 0 has a root just where its power is 1 -/
theorem root_iff (a : Int) (h : a % 12107 ≠ 0) : (rootOf a).2 = true ↔ a ^ 6053 % 12107 = 1 := by
  have key : a ^ 3027 % 12107 * (a ^ 3027 % 12107) % 12107 = a % 12107 ↔ a ^ 6053 % 12107 = 1 := by
    rw [root_sq]
    constructor
    · intro q
      rcases euler a h with e | e
      · exact e
      · rw [e] at q
        exact absurd q (neg_ne a h)
    · intro q
      rw [q, Int.mul_one]
  unfold rootOf
  by_cases q : a ^ 3027 % 12107 * (a ^ 3027 % 12107) % 12107 = a % 12107
  · rw [if_pos q]
    exact ⟨fun _ => key.1 q, fun _ => rfl⟩
  · rw [if_neg q]
    exact ⟨fun e => by simp at e, fun e => absurd (key.2 e) q⟩
/-- what is found squares to the number -/
theorem root_square (a : Int) (h : (rootOf a).2 = true) : (rootOf a).1 * (rootOf a).1 % 12107 = a % 12107 := by
  unfold rootOf at h ⊢
  by_cases q : a ^ 3027 % 12107 * (a ^ 3027 % 12107) % 12107 = a % 12107
  · rw [if_pos q]
    simp only
    split
    · rw [emod_mul_l, emod_mul_r]
      have e : (0 - a ^ 3027 % 12107) * (0 - a ^ 3027 % 12107) = a ^ 3027 % 12107 * (a ^ 3027 % 12107) := by grind
      rw [e, q]
    · exact q
  · rw [if_neg q] at h
    simp at h
/-- a square has a root, which is the number or the other way round -/
theorem root_of_square (a : Int) (h0 : 1 ≤ a) (h1 : a < 12107) : (rootOf (a * a % 12107)).2 = true ∧ ((rootOf (a * a % 12107)).1 = a ∨ ((rootOf (a * a % 12107)).1 + a) % 12107 = 0) := by
  have ha : a % 12107 ≠ 0 := by omega
  have hs : a * a % 12107 % 12107 ≠ 0 := by
    rw [Int.emod_emod]
    intro q
    exact ha (no_zero a a q ha)
  have hp : (a * a % 12107) ^ 6053 % 12107 = 1 := by
    rw [emod_pow, Int.mul_pow, ← Int.pow_add]
    exact fermat a ha
  have hr := (root_iff _ hs).2 hp
  refine ⟨hr, ?_⟩
  have hq := root_square _ hr
  rw [Int.emod_emod] at hq
  have hb : 0 ≤ (rootOf (a * a % 12107)).1 ∧ (rootOf (a * a % 12107)).1 < 12107 := by
    unfold rootOf
    split
    · simp only
      split
      · exact ⟨Int.emod_nonneg _ (by decide), Int.emod_lt_of_pos _ (by decide)⟩
      · exact ⟨Int.emod_nonneg _ (by decide), Int.emod_lt_of_pos _ (by decide)⟩
    · exact ⟨by decide, by decide⟩
  generalize (rootOf (a * a % 12107)).1 = r at hq hb ⊢
  by_cases e : r = a
  · exact Or.inl e
  · right
    refine no_zero (r - a) (r + a) ?_ (by omega)
    have e2 : (r - a) * (r + a) = r * r - a * a := by grind
    rw [e2, Int.sub_emod, hq, Int.sub_self]
    rfl
/-- two numbers that are not 0: the product has a root just where both have one, or none has -/
theorem root_product (a b : Int) (ha : a % 12107 ≠ 0) (hb : b % 12107 ≠ 0) : (rootOf (a * b % 12107)).2 = ((rootOf a).2 == (rootOf b).2) := by
  have hab : a * b % 12107 % 12107 ≠ 0 := by
    rw [Int.emod_emod]
    intro q
    exact hb (no_zero a b q ha)
  have hp : (a * b % 12107) ^ 6053 % 12107 = (a ^ 6053 % 12107) * (b ^ 6053 % 12107) % 12107 := by
    rw [emod_pow, Int.mul_pow, emod_mul_l, emod_mul_r]
  have i1 := root_iff a ha
  have i2 := root_iff b hb
  have i3 := root_iff _ hab
  rw [hp] at i3
  have e1 := euler a ha
  have e2 := euler b hb
  generalize a ^ 6053 % 12107 = x at *
  generalize b ^ 6053 % 12107 = y at *
  rw [Bool.eq_iff_iff, i3, beq_iff_eq]
  rcases e1 with rfl | rfl <;> rcases e2 with rfl | rfl
  · simp [i1.2 rfl, i2.2 rfl]
  · have : ¬ (rootOf b).2 = true := fun q => by have := i2.1 q; omega
    simp [i1.2 rfl, this]
  · have : ¬ (rootOf a).2 = true := fun q => by have := i1.1 q; omega
    simp [i2.2 rfl, this]
  · have h1 : ¬ (rootOf b).2 = true := fun q => by have := i2.1 q; omega
    have h2 : ¬ (rootOf a).2 = true := fun q => by have := i1.1 q; omega
    simp [h1, h2]
theorem root_mod (a : Int) : rootOf (a % 12107) = rootOf a := by
  unfold rootOf
  rw [emod_pow, Int.emod_emod]
end Go.Proofs.Ytfigfpfgeoadbaa.M
