/- Proved: ShortText of the program and of the reference agree at every text of at most 2^20 bytes (the law asks no more). Conditions: none. -/
import Derived.Test.YtaniffkmdiibpaaPFnExactShortTextx1
import Derived.Test.YtaniffkmdiibpaaMod
import Derived.Test.YtaniffkmdiibpaaVar
set_option linter.unusedVariables false
set_option linter.unusedSimpArgs false
namespace Go.Proofs.Ytaniffkmdiibpaa.Pure
open Go.RowKit Go.Proofs.Ytaniffkmdiibpaa.PFnExactShortText Go.Proofs.YtaniffkmdiibpaaW.PrintWords Go.Proofs.YtaniffkmdiibpaaW.PrintLast Go.Proofs.YtaniffkmdiibpaaW.PrintMore
open Go.Proofs.Ytaniffkmdiibpaa.M

theorem spec_l01Var_l0 : ∀ (d k n : Nat) (l : List Int), d < k → n < 128 ^ (d + 1) → n ≤ 9223372036854775807 → l.length + d ≤ 1000 → spec_l01Var.l0 k n l = some (strOfNums (l ++ varNums n)) := by
  intro d
  induction d with
  | zero =>
    intro k n l hk hn _ hl
    obtain ⟨k, rfl⟩ : ∃ j, k = j + 1 := ⟨k - 1, by omega⟩
    simp only [spec_l01Var.l0]
    rw [if_neg (by omega), if_pos (by omega), varNums_small n (by omega), show (n : Int) % 256 = n by omega]
  | succ d ih =>
    intro k n l hk hn hb hl
    obtain ⟨k, rfl⟩ : ∃ j, k = j + 1 := ⟨k - 1, by omega⟩
    simp only [spec_l01Var.l0]
    by_cases h : n < 128
    · rw [if_neg (by omega), if_pos (by omega), varNums_small n h, show (n : Int) % 256 = n by omega]
    · rw [if_pos (by omega), if_pos (by omega), Int.tdiv_eq_ediv_of_nonneg (by omega), Int.tmod_eq_emod_of_nonneg (by omega), varNums_great n (by omega)]
      rw [show wrap64 ((n : Int) / 128) = ((n / 128 : Nat) : Int) by unfold wrap64; omega, show wrap64 ((n : Int) % 128 + 128) % 256 = ((n % 128 + 128 : Nat) : Int) by unfold wrap64; omega]
      rw [ih k (n / 128) _ (by omega) (by rw [Nat.pow_succ] at hn; omega) (by omega) (by simp; omega)]
      simp
theorem spec_l01Var_eq (k : Nat) (hk : 12 ≤ k) (n : Nat) (hn : n ≤ 9223372036854775807) : spec_l01Var.f k n = some (strOfNums (varNums n)) := by
  unfold spec_l01Var.f
  exact spec_l01Var_l0 10 k n [] (by omega) (by omega) hn (by simp)
theorem spec_ShortText_eq (k : Nat) (hk : 12 ≤ k) (s : ByteArray) : spec_ShortText.f k s = some (if s.size > 20000 then (⟨#[]⟩, false) else (strOfNums (varNums s.size) ++ s, true)) := by
  unfold spec_ShortText.f
  by_cases h : s.size > 20000
  · rw [if_pos (by omega), if_pos h]
  · rw [if_neg (by omega), if_neg h, spec_l01Var_eq k hk s.size (by omega)]
    simp only [Option.bind_some]
    rw [if_pos (by rw [strOfNums_size]; have := varNums_len s.size (by omega); omega)]
theorem impl_varText_same : ∀ (k : Nat) (x : Int) (l : List Int), impl_varText.l0 k x l = spec_l01Var.l0 k x l := by
  intro k
  induction k with
  | zero => intro x l; rfl
  | succ k ih =>
    intro x l
    simp only [impl_varText.l0, spec_l01Var.l0, ih, Int.add_comm 128]
theorem impl_varText_eq (k : Nat) (hk : 12 ≤ k) (n : Nat) (hn : n ≤ 9223372036854775807) : impl_varText.f k n = some (strOfNums (varNums n)) := by
  unfold impl_varText.f
  rw [impl_varText_same]
  exact spec_l01Var_eq k hk n hn
theorem impl_ShortText_eq (k : Nat) (hk : 12 ≤ k) (s : ByteArray) : impl_ShortText.f k s = some (if s.size > 20000 then (⟨#[]⟩, false) else (strOfNums (varNums s.size) ++ s, true)) := by
  unfold impl_ShortText.f
  by_cases h : s.size > 20000
  · rw [if_pos (by omega), if_pos h]
  · rw [if_neg (by omega), if_neg h, impl_varText_eq k hk s.size (by omega)]
    simp only [Option.bind_some]
    rw [if_pos (by rw [strOfNums_size]; have := varNums_len s.size (by omega); omega)]
theorem FnExactShortText : laws_FnExactShortText.Pure := by
  intro s _
  refine ⟨12, ?_⟩
  unfold laws_FnExactShortText.f
  by_cases h : (s.size : Int) > 1048576
  · rw [if_pos h]
  rw [if_neg h, spec_ShortText_eq 12 (by omega), impl_ShortText_eq 12 (by omega)]
  simp

end Go.Proofs.Ytaniffkmdiibpaa.Pure
