/- Proved: VarText of the program and of the reference agree at every int. Conditions: none. -/
import Derived.Test.YtaniffkmdiibpaaPFnExactVarTextx1
import Derived.Test.YtaniffkmdiibpaaMod
import Derived.Test.YtaniffkmdiibpaaVar
set_option linter.unusedVariables false
set_option linter.unusedSimpArgs false
namespace Go.Proofs.Ytaniffkmdiibpaa.Pure
open Go.RowKit Go.Proofs.Ytaniffkmdiibpaa.PFnExactVarText Go.Proofs.YtaniffkmdiibpaaW.PrintWords Go.Proofs.YtaniffkmdiibpaaW.PrintLast Go.Proofs.YtaniffkmdiibpaaW.PrintMore
open Go.Proofs.Ytaniffkmdiibpaa.M

theorem spec_l01Var_l0 : ∀ (d k n : Nat) (l : List Int), d < k → n < 128 ^ (d + 1) → n ≤ 9223372036854775807 → l.length + d ≤ 1000 → spec_l01Var.l0 k n l = some (strOfNums (l ++ varNums n)) := by
  intro d
  induction d with
  | zero =>
    intro k n l hk hn _ hl
    obtain ⟨k, rfl⟩ : ∃ j, k = j + 1 := ⟨k - 1, by omega⟩
    simp only [spec_l01Var.l0]
    rw [if_neg (by omega), if_pos (by omega), varNums_small n (by omega), show (n : Int) % 256 = n by omega]
  | succ d ih =>
    intro k n l hk hn hb hl
    obtain ⟨k, rfl⟩ : ∃ j, k = j + 1 := ⟨k - 1, by omega⟩
    simp only [spec_l01Var.l0]
    by_cases h : n < 128
    · rw [if_neg (by omega), if_pos (by omega), varNums_small n h, show (n : Int) % 256 = n by omega]
    · rw [if_pos (by omega), if_pos (by omega), Int.tdiv_eq_ediv_of_nonneg (by omega), Int.tmod_eq_emod_of_nonneg (by omega), varNums_great n (by omega)]
      rw [show wrap64 ((n : Int) / 128) = ((n / 128 : Nat) : Int) by unfold wrap64; omega, show wrap64 ((n : Int) % 128 + 128) % 256 = ((n % 128 + 128 : Nat) : Int) by unfold wrap64; omega]
      rw [ih k (n / 128) _ (by omega) (by rw [Nat.pow_succ] at hn; omega) (by omega) (by simp; omega)]
      simp
theorem spec_l01Var_eq (k : Nat) (hk : 12 ≤ k) (n : Nat) (hn : n ≤ 9223372036854775807) : spec_l01Var.f k n = some (strOfNums (varNums n)) := by
  unfold spec_l01Var.f
  exact spec_l01Var_l0 10 k n [] (by omega) (by omega) hn (by simp)
theorem impl_varText_same : ∀ (k : Nat) (x : Int) (l : List Int), impl_varText.l0 k x l = spec_l01Var.l0 k x l := by
  intro k
  induction k with
  | zero => intro x l; rfl
  | succ k ih =>
    intro x l
    simp only [impl_varText.l0, spec_l01Var.l0, ih, Int.add_comm 128]
theorem impl_varText_eq (k : Nat) (hk : 12 ≤ k) (n : Nat) (hn : n ≤ 9223372036854775807) : impl_varText.f k n = some (strOfNums (varNums n)) := by
  unfold impl_varText.f
  rw [impl_varText_same]
  exact spec_l01Var_eq k hk n hn
theorem FnExactVarText : laws_FnExactVarText.Pure := by
  intro a ha
  have hb := i64_bounds ha
  refine ⟨12, ?_⟩
  unfold laws_FnExactVarText.f spec_VarText.f impl_VarText.f spec_l01In.f
  by_cases h0 : a < 0
  · rw [if_pos h0, if_neg (by omega)]
    simp
  by_cases h1 : a > 1000000000
  · rw [if_neg h0, if_pos h1, if_pos (by omega)]
    simp [show ¬ a ≤ 1000000000 by omega]
  rw [if_neg h0, if_neg h1, if_pos (by omega)]
  obtain ⟨n, rfl⟩ := Int.eq_ofNat_of_zero_le (show 0 ≤ a by omega)
  rw [spec_l01Var_eq 12 (by omega) n (by omega), impl_varText_eq 12 (by omega) n (by omega)]
  simp [show n ≤ 1000000000 by omega, show (n : Int) ≤ 1000000000 by omega]

end Go.Proofs.Ytaniffkmdiibpaa.Pure
