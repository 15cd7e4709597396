/- Plain arithmetic: pairs of whole numbers as numbers with a root of -1, their powers, and equality modulo 12107. Conditions: none. -/
import Derived.Test.YtfigfpfgeoadbaaMod
namespace Go.Proofs.Ytfigfpfgeoadbaa.M
structure G where
  re : Int
  im : Int
namespace G
def mul (x y : G) : G := ⟨x.re * y.re - x.im * y.im, x.re * y.im + x.im * y.re⟩
def one : G := ⟨1, 0⟩
def pow (x : G) : Nat → G
  | 0 => one
  | n + 1 => mul (pow x n) x
theorem ext' {x y : G} (h : x.re = y.re) (k : x.im = y.im) : x = y := by
  cases x; cases y; simp_all
theorem mul_comm (x y : G) : mul x y = mul y x := by
  apply ext'
  · show x.re * y.re - x.im * y.im = y.re * x.re - y.im * x.im
    grind
  · show x.re * y.im + x.im * y.re = y.re * x.im + y.im * x.re
    grind
theorem mul_assoc (x y z : G) : mul (mul x y) z = mul x (mul y z) := by
  apply ext'
  · show (x.re * y.re - x.im * y.im) * z.re - (x.re * y.im + x.im * y.re) * z.im = x.re * (y.re * z.re - y.im * z.im) - x.im * (y.re * z.im + y.im * z.re)
    grind
  · show (x.re * y.re - x.im * y.im) * z.im + (x.re * y.im + x.im * y.re) * z.re = x.re * (y.re * z.im + y.im * z.re) + x.im * (y.re * z.re - y.im * z.im)
    grind
theorem mul_one (x : G) : mul x one = x := by
  cases x; simp [mul, one]
theorem one_mul (x : G) : mul one x = x := by rw [mul_comm, mul_one]
theorem pow_zero (x : G) : pow x 0 = one := rfl
theorem pow_one (x : G) : pow x 1 = x := one_mul x
theorem pow_succ (x : G) (n : Nat) : pow x (n + 1) = mul (pow x n) x := rfl
theorem pow_add (x : G) (m n : Nat) : pow x (m + n) = mul (pow x m) (pow x n) := by
  induction n with
  | zero => exact (mul_one _).symm
  | succ n ih => show mul (pow x (m + n)) x = _; rw [ih, mul_assoc]; rfl
theorem pow_mul2 (x : G) (n : Nat) : pow (mul x x) n = pow x (2 * n) := by
  induction n with
  | zero => rfl
  | succ n ih =>
    show mul (pow (mul x x) n) (mul x x) = _
    rw [ih, show 2 * (n + 1) = 2 * n + 2 by omega, pow_add]
    congr 1
    show _ = mul (mul one x) x
    rw [one_mul]
theorem pow_half (x : G) (n : Nat) : pow x n = mul (pow x (n % 2)) (pow (mul x x) (n / 2)) := by
  rw [pow_mul2, ← pow_add]; congr 1; omega
/-- both parts are what is left by 12107 -/
structure Small (x : G) : Prop where
  re : x.re % 12107 = x.re
  im : x.im % 12107 = x.im
def red (x : G) : G := ⟨x.re % 12107, x.im % 12107⟩
theorem red_small (x : G) : Small (red x) := ⟨Int.emod_emod .., Int.emod_emod ..⟩
structure Eqv (x y : G) : Prop where
  re : x.re % 12107 = y.re % 12107
  im : x.im % 12107 = y.im % 12107
theorem Eqv.refl (x : G) : Eqv x x := ⟨rfl, rfl⟩
theorem Eqv.symm {x y : G} (h : Eqv x y) : Eqv y x := ⟨h.re.symm, h.im.symm⟩
theorem Eqv.trans {x y z : G} (h : Eqv x y) (k : Eqv y z) : Eqv x z := ⟨h.re.trans k.re, h.im.trans k.im⟩
theorem red_eqv (x : G) : Eqv (red x) x := ⟨Int.emod_emod .., Int.emod_emod ..⟩
theorem mul_red (x y : G) : Eqv (mul (red x) (red y)) (mul x y) := by
  constructor
  · show (x.re % 12107 * (y.re % 12107) - x.im % 12107 * (y.im % 12107)) % 12107 = (x.re * y.re - x.im * y.im) % 12107
    rw [Int.sub_emod, emod_mul_l, emod_mul_r, emod_mul_l, emod_mul_r, ← Int.sub_emod]
  · show (x.re % 12107 * (y.im % 12107) + x.im % 12107 * (y.re % 12107)) % 12107 = (x.re * y.im + x.im * y.re) % 12107
    rw [Int.add_emod, emod_mul_l, emod_mul_r, emod_mul_l, emod_mul_r, ← Int.add_emod]
theorem red_of {x y : G} (h : Eqv x y) : red x = red y := by
  unfold red
  rw [h.re, h.im]
theorem mul_congr {x y z t : G} (h : Eqv x y) (k : Eqv z t) : Eqv (mul x z) (mul y t) := by
  refine (mul_red x z).symm.trans ?_
  rw [red_of h, red_of k]
  exact mul_red y t
theorem pow_congr {x y : G} (h : Eqv x y) (n : Nat) : Eqv (pow x n) (pow y n) := by
  induction n with
  | zero => exact Eqv.refl _
  | succ n ih => exact mul_congr ih h
theorem pair_eq {x y : G} (h : Eqv x y) : some (x.re % 12107, x.im % 12107) = some (y.re % 12107, y.im % 12107) := by rw [h.re, h.im]
end G
end Go.Proofs.Ytfigfpfgeoadbaa.M
