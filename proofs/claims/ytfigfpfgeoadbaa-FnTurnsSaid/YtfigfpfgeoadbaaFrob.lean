/- Plain arithmetic: a number two by two to the power 12107 is the one turned (looked at by the kernel for each t and one, then carried over). Conditions: none. -/
import Derived.Test.YtfigfpfgeoadbaaNorm
namespace Go.Proofs.Ytfigfpfgeoadbaa.M
/-- squares, and times (t, 1) where the bit is set; in the end the look whether it is (t, -1) -/
def gp (t : Nat) : List Bool → Nat → Nat → Bool
  | [], x, y => Nat.beq x (t % 12107) && Nat.beq (y + 1) 12107
  | b :: l, x, y =>
    let x1 := (x * x + (146579449 - y * y)) % 12107
    let y1 := (2 * (x * y)) % 12107
    match b with
    | false => gp t l x1 y1
    | true => gp t l ((x1 * t + (12107 - y1)) % 12107) ((x1 + y1 * t) % 12107)
def bitsP : List Bool := [true, false, true, true, true, true, false, true, false, false, true, false, true, true]
set_option maxRecDepth 100000 in
theorem frob_chk : chk (fun t => gp t bitsP 1 0) 14 0 = true := by decide +kernel
def valB : List Bool → Nat → Nat
  | [], m => m
  | false :: l, m => valB l (m + m)
  | true :: l, m => valB l (m + m + 1)
theorem sq_cast (x y : Nat) (hy : y < 12107) : (((x * x + (146579449 - y * y)) % 12107 : Nat) : Int) % 12107 = ((x : Int) * x - (y : Int) * y) % 12107 := by
  have h : y * y ≤ 12106 * 12106 := Nat.mul_le_mul (by omega) (by omega)
  rw [← Int.natCast_mul, ← Int.natCast_mul]
  generalize x * x = a
  generalize y * y = b at h ⊢
  omega
theorem gp_pow (t : Nat) : ∀ (l : List Bool) (x y m : Nat), gp t l x y = true → x < 12107 → y < 12107 → G.Eqv ⟨x, y⟩ (G.pow ⟨t, 1⟩ m) → G.Eqv ⟨t, -1⟩ (G.pow ⟨t, 1⟩ (valB l m)) := by
  intro l
  induction l with
  | nil =>
    intro x y m h hx hy he
    simp only [gp, Bool.and_eq_true, Nat.beq_eq] at h
    refine G.Eqv.trans ?_ he
    constructor
    · show (t : Int) % 12107 = (x : Int) % 12107
      omega
    · show (-1 : Int) % 12107 = (y : Int) % 12107
      omega
  | cons b l ih =>
    intro x y m h hx hy he
    have hsq : G.Eqv ⟨((x * x + (146579449 - y * y)) % 12107 : Nat), ((2 * (x * y)) % 12107 : Nat)⟩ (G.pow ⟨t, 1⟩ (m + m)) := by
      rw [G.pow_add]
      refine G.Eqv.trans ?_ (G.mul_congr he he)
      constructor
      · exact sq_cast x y hy
      · show (((2 * (x * y)) % 12107 : Nat) : Int) % 12107 = ((x : Int) * y + (y : Int) * x) % 12107
        rw [Int.mul_comm (y : Int) x, ← Int.natCast_mul]
        generalize x * y = a
        omega
    cases b with
    | false => exact ih _ _ (m + m) h (Nat.mod_lt _ (by omega)) (Nat.mod_lt _ (by omega)) hsq
    | true =>
      refine ih _ _ (m + m + 1) h (Nat.mod_lt _ (by omega)) (Nat.mod_lt _ (by omega)) ?_
      rw [G.pow_succ]
      refine G.Eqv.trans ?_ (G.mul_congr hsq (G.Eqv.refl _))
      have hx1 : (x * x + (146579449 - y * y)) % 12107 < 12107 := Nat.mod_lt _ (by omega)
      have hy1 : 2 * (x * y) % 12107 < 12107 := Nat.mod_lt _ (by omega)
      generalize (x * x + (146579449 - y * y)) % 12107 = u at hx1 ⊢
      generalize 2 * (x * y) % 12107 = v at hy1 ⊢
      constructor
      · show (((u * t + (12107 - v)) % 12107 : Nat) : Int) % 12107 = ((u : Int) * t - (v : Int) * 1) % 12107
        rw [← Int.natCast_mul, Int.mul_one]
        generalize u * t = a
        omega
      · show (((u + v * t) % 12107 : Nat) : Int) % 12107 = ((u : Int) * 1 + (v : Int) * t) % 12107
        rw [← Int.natCast_mul, Int.mul_one]
        generalize v * t = a
        omega
theorem frob_t (t : Nat) (h : t < 12107) : G.Eqv (G.pow ⟨t, 1⟩ 12107) ⟨t, -1⟩ := by
  have hc := chk_spec _ 14 0 frob_chk t (by omega) (by omega)
  have e : valB bitsP 0 = 12107 := by decide
  have k := gp_pow t bitsP 1 0 0 hc (by omega) (by omega) (G.Eqv.refl _)
  rw [e] at k
  exact k.symm
theorem pow_mul' (x y : G) (n : Nat) : G.pow (G.mul x y) n = G.mul (G.pow x n) (G.pow y n) := by
  induction n with
  | zero => rfl
  | succ n ih =>
    rw [G.pow_succ, G.pow_succ, G.pow_succ, ih, G.mul_assoc, G.mul_assoc, ← G.mul_assoc (G.pow y n), G.mul_comm (G.pow y n) x, G.mul_assoc]
theorem pow_real (b : Int) (n : Nat) : G.pow ⟨b, 0⟩ n = ⟨b ^ n, 0⟩ := by
  induction n with
  | zero => rw [Int.pow_zero]; rfl
  | succ n ih =>
    rw [G.pow_succ, ih]
    apply G.ext'
    · show b ^ n * b - 0 * 0 = b ^ (n + 1)
      rw [Int.pow_succ]
      omega
    · show b ^ n * 0 + 0 * b = 0
      omega
theorem fermat_p (b : Int) : b ^ 12107 % 12107 = b % 12107 := by
  have e : b ^ 12107 = b ^ 12106 * b := Int.pow_succ b 12106
  rw [e]
  by_cases h : b % 12107 = 0
  · rw [← emod_mul_r, h, Int.mul_zero]
    rfl
  · rw [← emod_mul_l, fermat b h, Int.one_mul]
theorem frob (a b : Int) : G.Eqv (G.pow ⟨a, b⟩ 12107) ⟨a, 0 - b⟩ := by
  by_cases hb : b % 12107 = 0
  · have h1 : G.Eqv ⟨a, b⟩ ⟨a, 0⟩ := ⟨rfl, hb⟩
    refine (G.pow_congr h1 12107).trans ?_
    rw [pow_real]
    exact ⟨fermat_p a, by show (0 : Int) % 12107 = (0 - b) % 12107; omega⟩
  · obtain ⟨t, ht⟩ := Int.eq_ofNat_of_zero_le (Int.emod_nonneg (a * b ^ 12105) (show (12107 : Int) ≠ 0 by decide))
    have htl : (t : Int) < 12107 := by rw [← ht]; exact Int.emod_lt_of_pos _ (by decide)
    have hbt : b * (t : Int) % 12107 = a % 12107 := by
      have k := inv_mul b hb
      rw [← ht, emod_mul_r]
      generalize b ^ 12105 = I at k ⊢
      have e : b * (a * I) = a * (b * I) := by grind
      rw [e, ← emod_mul_r, k, Int.mul_one]
    have h1 : G.Eqv ⟨a, b⟩ (G.mul ⟨b, 0⟩ ⟨t, 1⟩) := by
      constructor
      · show a % 12107 = (b * (t : Int) - 0 * 1) % 12107
        rw [Int.zero_mul, Int.sub_zero, hbt]
      · show b % 12107 = (b * 1 + 0 * (t : Int)) % 12107
        rw [Int.zero_mul, Int.add_zero, Int.mul_one]
    refine (G.pow_congr h1 12107).trans ?_
    rw [pow_mul', pow_real]
    have h2 : G.Eqv ⟨b ^ 12107, 0⟩ ⟨b, 0⟩ := ⟨fermat_p b, rfl⟩
    refine (G.mul_congr h2 (frob_t t (by omega))).trans ?_
    constructor
    · show (b * (t : Int) - 0 * -1) % 12107 = a % 12107
      rw [Int.zero_mul, Int.sub_zero, hbt]
    · show (b * -1 + 0 * (t : Int)) % 12107 = (0 - b) % 12107
      rw [Int.zero_mul]
      congr 1
      omega
end Go.Proofs.Ytfigfpfgeoadbaa.M
