/- Proved: Hex of the program and of the reference agree at every text of at most 2^20 bytes (the law asks no more). Conditions: none. -/
import Derived.Test.YtaniffkmdiibpaaQFnExactHexx1
import Derived.Test.YtaniffkmdiibpaaMod
import Derived.Test.YtaniffkmdiibpaaCrc
set_option linter.unusedVariables false
set_option linter.unusedSimpArgs false
namespace Go.Proofs.Ytaniffkmdiibpaa.Pure
open Go.RowKit Go.Proofs.Ytaniffkmdiibpaa.PFnExactHex Go.Proofs.YtaniffkmdiibpaaW.PrintWords Go.Proofs.YtaniffkmdiibpaaW.PrintLast Go.Proofs.YtaniffkmdiibpaaW.PrintMore
open Go.Proofs.Ytaniffkmdiibpaa.M

def figOf (a : Int) : Int := if a < 10 then 48 + a else 87 + a
theorem spec_l01Figure_eq (a : Int) (h0 : 0 ≤ a) (h1 : a < 16) : spec_l01Figure.f a = some (figOf a) := by
  have w : ∀ n : Int, -1000 ≤ n → n < 1000000 → wrap64 n = n := by
    intro n q1 q2
    unfold wrap64
    omega
  unfold spec_l01Figure.f figOf
  by_cases h : a < 10
  · rw [if_pos h, if_pos h, w _ (by omega) (by omega)]
    congr 1
    omega
  · rw [if_neg h, if_neg h, w (97 + a) (by omega) (by omega), w _ (by omega) (by omega)]
    congr 1
    omega
def hexD : ByteArray := ⟨#[48, 49, 50, 51, 52, 53, 54, 55, 56, 57, 97, 98, 99, 100, 101, 102]⟩
theorem hexD_at (a : Int) (h0 : 0 ≤ a) (h1 : a < 16) : bt hexD a = figOf a := by
  have h : ∀ i : Fin 16, bt hexD ((i.val : Nat) : Int) = figOf ((i.val : Nat) : Int) := by decide
  obtain ⟨n, rfl⟩ := Int.eq_ofNat_of_zero_le h0
  exact h ⟨n, by omega⟩
theorem and_15 (a : Int) (h0 : 0 ≤ a) (h1 : a ≤ 255) : Go.bits .and .u8 a 15 = a % 16 := by
  have h := bits_mask .u8 8 (by decide) (fun m h0 h1 => by simp [IntKind.wrap, IntKind.bits, IntKind.signed]; omega) 4 (by omega) a (by omega) (by omega)
  rw [show ((2 : Int) ^ 4 - 1) = 15 from rfl] at h
  rw [h]
  rfl
theorem hex_same (s : ByteArray) (hs : s.size ≤ 20000) : ∀ (d k i : Nat) (L : List Int), d < k → i + d = s.size → L.length ≤ 2 * i → ∃ r, spec_Hex.l0 k s L (i : Int) = some (r, true) ∧ impl_Hex.l0 k s hexD L (i : Int) = some (r, true) := by
  intro d
  induction d with
  | zero =>
    intro k i L hk hi hL
    obtain ⟨k, rfl⟩ : ∃ m, k = m + 1 := ⟨k - 1, by omega⟩
    simp only [spec_Hex.l0, impl_Hex.l0]
    rw [if_neg (by omega), if_neg (by omega)]
    exact ⟨_, rfl, rfl⟩
  | succ d ih =>
    intro k i L hk hi hL
    obtain ⟨k, rfl⟩ : ∃ m, k = m + 1 := ⟨k - 1, by omega⟩
    simp only [spec_Hex.l0, impl_Hex.l0]
    have hb := bt_range s (i : Int)
    have ew : wrap64 (bt s (i : Int)) = bt s (i : Int) := by unfold wrap64; omega
    have eq : Int.tdiv (bt s (i : Int)) 16 = bt s (i : Int) / 16 := Int.tdiv_eq_ediv_of_nonneg hb.1
    have er : Int.tmod (bt s (i : Int)) 16 = bt s (i : Int) % 16 := Int.tmod_eq_emod_of_nonneg hb.1
    have ew2 : wrap64 (bt s (i : Int) / 16) = bt s (i : Int) / 16 := by unfold wrap64; omega
    have hsz : (hexD.size : Int) = 16 := rfl
    rw [ew, eq, er, ew2, and_15 _ hb.1 (by omega), spec_l01Figure_eq _ (by omega) (by omega), spec_l01Figure_eq _ (by omega) (by omega), hexD_at _ (by omega) (by omega), hexD_at _ (by omega) (by omega), hsz]
    simp only [Option.bind_some]
    generalize hX : bt s (i : Int) = X at hb
    clear ew eq er ew2
    rw [if_pos (by first | omega | (simp only [List.length_cons, List.length_nil]; omega)), if_pos (by first | omega | (simp only [List.length_cons, List.length_nil]; omega)), if_pos (by first | omega | (simp only [List.length_cons, List.length_nil]; omega)), if_pos (by first | omega | (simp only [List.length_cons, List.length_nil]; omega)), if_pos (by first | omega | (simp only [List.length_cons, List.length_nil]; omega)), if_pos (by first | omega | (simp only [List.length_cons, List.length_nil]; omega)), if_pos (by first | omega | (simp only [List.length_cons, List.length_nil]; omega)), if_pos (by first | omega | (simp only [List.length_cons, List.length_nil]; omega)), if_pos (by first | omega | (simp only [List.length_cons, List.length_nil]; omega)), if_pos (by first | omega | (simp only [List.length_cons, List.length_nil]; omega)), wrap_nat' i (by omega)]
    have hl : (L ++ [figOf (X / 16), figOf (X % 16)]).length ≤ 2 * (i + 1) := by
      rw [List.length_append]
      show L.length + 2 ≤ 2 * (i + 1)
      omega
    exact ih k (i + 1) _ (by omega) (by omega) hl
theorem FnExactHex : laws_FnExactHex.Pure := by
  intro s _
  refine ⟨20002, ?_⟩
  unfold laws_FnExactHex.f
  by_cases h : (s.size : Int) > 1048576
  · rw [if_pos h]
  rw [if_neg h]
  unfold spec_Hex.f impl_Hex.f
  by_cases h2 : (s.size : Int) > 20000
  · rw [if_pos h2, if_pos h2]
    simp
  · have e : wrap64 (2 * (s.size : Int)) = 2 * (s.size : Int) := by unfold wrap64; omega
    obtain ⟨r, e1, e2⟩ := hex_same s (by omega) s.size 20002 0 [] (by omega) (by omega) (by simp)
    rw [if_neg h2, if_neg h2, e, if_pos (by omega), if_pos (by omega)]
    have e3 : (((0 : Nat) : Int)) = 0 := rfl
    rw [e3] at e1 e2
    unfold hexD at e2
    rw [e1, e2]
    simp

end Go.Proofs.Ytaniffkmdiibpaa.Pure
