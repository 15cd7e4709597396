/- Proved: ScDot of the program and of the reference agree at every two lists of ints, and the arguments stay as they were. Conditions: none. -/
import Derived.Test.YtaaimmobggkhbaaQFnExactScDotx2
import Derived.Test.YtaaimmobggkhbaaMod
import Derived.Test.YtaaimmobggkhbaaDot
set_option linter.unusedVariables false
set_option linter.unusedSimpArgs false
namespace Go.Proofs.Ytaaimmobggkhbaa.Pure
open Go.RowKit Go.Proofs.Ytaaimmobggkhbaa.PFnExactScDot Go.Proofs.YtaaimmobggkhbaaW.PrintWords Go.Proofs.YtaaimmobggkhbaaW.PrintLast Go.Proofs.YtaaimmobggkhbaaW.PrintMore
open Go.Proofs.Ytaaimmobggkhbaa.M

theorem spec_ScOf_eq (a : Int) : spec_ScOf.f a = some (a % 1009) := by
  unfold spec_ScOf.f
  rw [tm_eq a 1009 (by omega)]
  have h0 := Int.emod_nonneg a (show (1009 : Int) ≠ 0 by omega)
  have h1 := Int.emod_lt_of_pos a (show (0 : Int) < 1009 by omega)
  by_cases h : 0 ≤ a ∨ (1009 : Int) ∣ a
  · rw [if_pos h, if_neg (by omega)]
    simp
  · rw [if_neg h, if_pos (by omega)]
    unfold wrap64
    congr 1
    omega
theorem spec_ScMul_eq (a b : Int) : spec_ScMul.f a b = some ((a * b) % 1009) := by
  unfold spec_ScMul.f
  simp only [spec_ScOf_eq, Option.bind_some]
  have h0 := Int.emod_nonneg a (show (1009 : Int) ≠ 0 by omega)
  have h1 := Int.emod_lt_of_pos a (show (0 : Int) < 1009 by omega)
  have h2 := Int.emod_nonneg b (show (1009 : Int) ≠ 0 by omega)
  have h3 := Int.emod_lt_of_pos b (show (0 : Int) < 1009 by omega)
  rw [show wrap64 ((a % 1009) * (b % 1009)) = (a % 1009) * (b % 1009) from wrap_mul _ _ 1009 (by omega) h0 h1 h2 h3]
  exact congrArg some (Int.mul_emod a b 1009).symm
theorem spec_ScAdd_eq (a b : Int) : spec_ScAdd.f a b = some ((a + b) % 1009) := by
  unfold spec_ScAdd.f
  simp only [spec_ScOf_eq, Option.bind_some]
  have h0 := Int.emod_nonneg a (show (1009 : Int) ≠ 0 by omega)
  have h1 := Int.emod_lt_of_pos a (show (0 : Int) < 1009 by omega)
  have h2 := Int.emod_nonneg b (show (1009 : Int) ≠ 0 by omega)
  have h3 := Int.emod_lt_of_pos b (show (0 : Int) < 1009 by omega)
  rw [show wrap64 ((a % 1009) + (b % 1009)) = (a % 1009) + (b % 1009) from by unfold wrap64; omega]
  exact congrArg some (Int.add_emod a b 1009).symm
theorem spec_ScDot_l0 (a b : List Int) (ha : a.length ≤ 1048576) : ∀ (d k : Nat) (i : Nat) (acc : Int), 2 * d + 2 ≤ k → i + d = min a.length b.length →
    spec_ScDot.l0 k a b acc i = some (dotN a b d i acc) := by
  intro d
  induction d with
  | zero =>
    intro k i acc hk hi
    obtain ⟨k, rfl⟩ : ∃ j, k = j + 2 := ⟨k - 2, by omega⟩
    simp only [spec_ScDot.l0, spec_ScDot.j1, dotN]
    by_cases h : (i : Int) < a.length
    · rw [if_pos h, decide_eq_false (by omega)]
      simp
    · rw [if_neg h]
      simp
  | succ d ih =>
    intro k i acc hk hi
    obtain ⟨k, rfl⟩ : ∃ j, k = j + 2 := ⟨k - 2, by omega⟩
    simp only [spec_ScDot.l0, spec_ScDot.j1, dotN]
    rw [if_pos (by omega), decide_eq_true (by omega), if_pos rfl, if_pos (by omega), if_pos (by omega), if_pos (by omega)]
    simp only [spec_ScMul_eq, spec_ScAdd_eq, Option.bind_some, rd]
    rw [wrap_nat i (by omega), ih k (i + 1) _ (by omega) (by omega)]
    rfl
theorem spec_ScDot_eq (a b : List Int) (ha : a.length ≤ 1048576) (k : Nat) (hk : 3000000 ≤ k) : spec_ScDot.f k a b = some (dotN a b (min a.length b.length) 0 0) :=
  spec_ScDot_l0 a b ha _ k 0 0 (by omega) (by omega)
theorem laws_toIntS_l0 (l : List Int) (hl : l.length ≤ 1048576) : ∀ (d k : Nat) (i : Nat) (x : List Int), d + 1 ≤ k → i + d = l.length → x.length = l.length → (∀ j, j < i → x[j]? = l[j]?) →
    laws_toIntS.l0 k l x i = some l := by
  intro d
  induction d with
  | zero =>
    intro k i x hk hi hx hj
    obtain ⟨k, rfl⟩ : ∃ j, k = j + 1 := ⟨k - 1, by omega⟩
    simp only [laws_toIntS.l0]
    rw [if_neg (by omega)]
    congr 1
    apply List.ext_getElem?
    intro j
    by_cases h : j < i
    · exact hj j h
    · rw [List.getElem?_eq_none (by omega), List.getElem?_eq_none (by omega)]
  | succ d ih =>
    intro k i x hk hi hx hj
    obtain ⟨k, rfl⟩ : ∃ j, k = j + 1 := ⟨k - 1, by omega⟩
    simp only [laws_toIntS.l0]
    rw [if_pos (by omega), if_pos (by omega), if_pos (by omega), wrap_nat i (by omega)]
    refine ih k (i + 1) _ (by omega) (by omega) (by simp [hx]) (fun j hlt => ?_)
    rw [Int.toNat_natCast, List.getElem?_set]
    by_cases h : i = j
    · subst h
      rw [if_pos rfl, if_pos (by omega)]
      unfold rd
      rw [Int.toNat_natCast, List.getD_eq_getElem?_getD, List.getElem?_eq_getElem (by omega)]
      rfl
    · rw [if_neg h]
      exact hj j (by omega)
theorem laws_toIntS_eq (l : List Int) (hl : l.length ≤ 1048576) (k : Nat) (hk : 3000000 ≤ k) : laws_toIntS.f k l = some l := by
  unfold laws_toIntS.f
  rw [if_pos (by omega), if_pos (by omega)]
  exact laws_toIntS_l0 l hl l.length k 0 _ (by omega) (by omega) (by simp) (fun j hj => by omega)
theorem impl_remainder_eq (a m : Int) (h : 0 < m) (hm : m ≤ 1000000) : impl_remainder.f a m = some (a % m) := by
  unfold impl_remainder.f
  rw [if_neg (by omega), tm_eq a m h]
  have h0 := Int.emod_nonneg a (show m ≠ 0 by omega)
  have h1 := Int.emod_lt_of_pos a h
  by_cases hc : 0 ≤ a ∨ m ∣ a
  · rw [if_pos hc, if_neg (by omega)]
    simp
  · rw [if_neg hc, if_pos (by omega)]
    unfold wrap64
    congr 1
    omega
theorem impl_ScOf_eq (a : Int) : impl_ScOf.f a = some (a % 1009) := by
  unfold impl_ScOf.f
  rw [impl_remainder_eq a 1009 (by omega) (by omega)]
  rfl
theorem impl_ScAdd_eq (a b : Int) : impl_ScAdd.f a b = some ((a + b) % 1009) := by
  unfold impl_ScAdd.f
  simp only [impl_ScOf_eq, Option.bind_some]
  have h0 := Int.emod_nonneg a (show (1009 : Int) ≠ 0 by omega)
  have h1 := Int.emod_lt_of_pos a (show (0 : Int) < 1009 by omega)
  have h2 := Int.emod_nonneg b (show (1009 : Int) ≠ 0 by omega)
  have h3 := Int.emod_lt_of_pos b (show (0 : Int) < 1009 by omega)
  rw [show wrap64 ((a % 1009) + (b % 1009)) = (a % 1009) + (b % 1009) from by unfold wrap64; omega]
  exact congrArg some (Int.add_emod a b 1009).symm
theorem impl_ScMul_eq (a b : Int) : impl_ScMul.f a b = some ((a * b) % 1009) := by
  unfold impl_ScMul.f
  simp only [impl_ScOf_eq, Option.bind_some]
  have h0 := Int.emod_nonneg a (show (1009 : Int) ≠ 0 by omega)
  have h1 := Int.emod_lt_of_pos a (show (0 : Int) < 1009 by omega)
  have h2 := Int.emod_nonneg b (show (1009 : Int) ≠ 0 by omega)
  have h3 := Int.emod_lt_of_pos b (show (0 : Int) < 1009 by omega)
  rw [show wrap64 ((a % 1009) * (b % 1009)) = (a % 1009) * (b % 1009) from wrap_mul _ _ 1009 (by omega) h0 h1 h2 h3]
  exact congrArg some (Int.mul_emod a b 1009).symm
theorem impl_ScDot_l0 (a b : List Int) (ha : a.length ≤ 1048576) : ∀ (d k : Nat) (i : Nat) (acc : Int), d + 1 ≤ k → i + d = min a.length b.length →
    impl_ScDot.l0 k a b acc (mn a.length b.length) i = some (dotN a b d i acc) := by
  intro d
  induction d with
  | zero =>
    intro k i acc hk hi
    obtain ⟨k, rfl⟩ : ∃ j, k = j + 1 := ⟨k - 1, by omega⟩
    simp only [impl_ScDot.l0, dotN]
    rw [if_neg (by unfold mn; split <;> omega)]
  | succ d ih =>
    intro k i acc hk hi
    obtain ⟨k, rfl⟩ : ∃ j, k = j + 1 := ⟨k - 1, by omega⟩
    simp only [impl_ScDot.l0, dotN]
    rw [if_pos (by unfold mn; split <;> omega), if_pos (by omega), if_pos (by omega), if_pos (by omega)]
    simp only [impl_ScMul_eq, impl_ScAdd_eq, Option.bind_some, rd]
    rw [wrap_nat i (by omega), ih k (i + 1) _ (by omega) (by omega)]
    rfl
theorem impl_ScDot_eq (a b : List Int) (ha : a.length ≤ 1048576) (k : Nat) (hk : 3000000 ≤ k) : impl_ScDot.f k a b = some (dotN a b (min a.length b.length) 0 0) :=
  impl_ScDot_l0 a b ha _ k 0 0 (by omega) (by omega)
theorem laws_eqIntS_l0 (l : List Int) (hl : l.length ≤ 1048576) : ∀ (d k : Nat) (i : Nat), d + 1 ≤ k → i + d = l.length → laws_eqIntS.l0 k l l i = some true := by
  intro d
  induction d with
  | zero =>
    intro k i hk hi
    obtain ⟨k, rfl⟩ : ∃ j, k = j + 1 := ⟨k - 1, by omega⟩
    simp only [laws_eqIntS.l0]
    rw [if_neg (by omega)]
  | succ d ih =>
    intro k i hk hi
    obtain ⟨k, rfl⟩ : ∃ j, k = j + 1 := ⟨k - 1, by omega⟩
    simp only [laws_eqIntS.l0]
    rw [if_pos (by omega), if_pos (by omega), if_pos (by omega), if_pos trivial, wrap_nat i (by omega)]
    exact ih k (i + 1) (by omega) (by omega)
theorem laws_eqIntS_same (l : List Int) (hl : l.length ≤ 1048576) (k : Nat) (hk : 3000000 ≤ k) : laws_eqIntS.f k l l = some true := by
  unfold laws_eqIntS.f
  rw [if_pos rfl]
  exact laws_eqIntS_l0 l hl l.length k 0 (by omega) (by omega)
theorem FnExactScDot : laws_FnExactScDot.Pure := by
  intro a b _ _ _ _ _ _
  refine ⟨3000000, ?_⟩
  unfold laws_FnExactScDot.f
  by_cases ha : (a.length : Int) > 1048576
  · rw [if_pos ha]
  by_cases hb : (b.length : Int) > 1048576
  · rw [if_neg ha, if_pos hb]
  rw [if_neg ha, if_neg hb]
  simp only [laws_toIntS_eq a (by omega) 3000000 (by omega), laws_toIntS_eq b (by omega) 3000000 (by omega), Option.bind_some, spec_ScDot_eq a b (by omega) 3000000 (by omega), impl_ScDot_eq a b (by omega) 3000000 (by omega), laws_eqIntS_same a (by omega) 3000000 (by omega), laws_eqIntS_same b (by omega) 3000000 (by omega), if_true]

end Go.Proofs.Ytaaimmobggkhbaa.Pure
