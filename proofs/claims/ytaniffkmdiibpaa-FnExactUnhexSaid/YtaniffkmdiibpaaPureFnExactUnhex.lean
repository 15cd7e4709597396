/- Proved: Unhex of the program and of the reference agree at every text of at most 2^20 bytes (the law asks no more). Conditions: none. -/
import Derived.Test.YtaniffkmdiibpaaQFnExactUnhexx1
import Derived.Test.YtaniffkmdiibpaaMod
import Derived.Test.YtaniffkmdiibpaaIndexByte
set_option linter.unusedVariables false
set_option linter.unusedSimpArgs false
namespace Go.Proofs.Ytaniffkmdiibpaa.Pure
open Go.RowKit Go.Proofs.Ytaniffkmdiibpaa.PFnExactUnhex Go.Proofs.YtaniffkmdiibpaaW.PrintWords Go.Proofs.YtaniffkmdiibpaaW.PrintLast Go.Proofs.YtaniffkmdiibpaaW.PrintMore
open Go.Proofs.Ytaniffkmdiibpaa.M

def valV (x : Int) : Int := if 48 ≤ x ∧ x ≤ 57 then x - 48 else if 97 ≤ x ∧ x ≤ 102 then x - 87 else -1
theorem spec_l01Value_eq (k : Nat) (x : Int) (h0 : 0 ≤ x) (h1 : x ≤ 255) : spec_l01Value.f (k + 1) x = some (valV x) := by
  have w1 : wrap64 x = x := by unfold wrap64; omega
  have w2 : 48 ≤ x → wrap64 (x - 48) = x - 48 := fun _ => by unfold wrap64; omega
  have w3 : 97 ≤ x → wrap64 (x - 97) = x - 97 := fun _ => by unfold wrap64; omega
  have w4 : 97 ≤ x → wrap64 (x - 97 + 10) = x - 87 := fun _ => by unfold wrap64; omega
  unfold spec_l01Value.f valV
  by_cases c1 : x ≥ 48
  · rw [if_pos c1]
    simp only [spec_l01Value.j0]
    by_cases c2 : x ≤ 57
    · rw [if_pos (c := decide (x ≤ 57) = true) (by simpa using c2), if_pos (c := 48 ≤ x ∧ x ≤ 57) ⟨c1, c2⟩, w1, w2 c1]
    · rw [if_neg (c := decide (x ≤ 57) = true) (by simpa using c2), if_neg (c := 48 ≤ x ∧ x ≤ 57) (by omega)]
      by_cases c3 : x ≥ 97
      · rw [if_pos c3]
        by_cases c4 : x ≤ 102
        · rw [if_pos c4, if_pos (c := 97 ≤ x ∧ x ≤ 102) ⟨c3, c4⟩, w1, w3 c3, w4 c3]
        · rw [if_neg c4, if_neg (c := 97 ≤ x ∧ x ≤ 102) (by omega)]
      · rw [if_neg c3, if_neg (c := 97 ≤ x ∧ x ≤ 102) (by omega)]
  · rw [if_neg c1]
    simp only [spec_l01Value.j0]
    rw [if_neg (c := false = true) (by simp), if_neg (c := x ≥ 97) (by omega), if_neg (c := 48 ≤ x ∧ x ≤ 57) (by omega), if_neg (c := 97 ≤ x ∧ x ≤ 102) (by omega)]
def hexU : ByteArray := ⟨#[48, 49, 50, 51, 52, 53, 54, 55, 56, 57, 97, 98, 99, 100, 101, 102]⟩
theorem hexU_all : ((List.range 256).all fun n => decide (Lib.indexByte hexU.data.toList (Nat.toUInt8 n) = valV (n : Int))) = true := by kernel_rfl
theorem hexU_at (x : Int) (h0 : 0 ≤ x) (h1 : x ≤ 255) : strings_IndexByte.f hexU x = some (valV x) := by
  obtain ⟨n, rfl⟩ := Int.eq_ofNat_of_zero_le h0
  have h := List.all_eq_true.1 hexU_all n (List.mem_range.2 (by omega))
  unfold strings_IndexByte.f
  rw [Int.toNat_natCast, of_decide_eq_true h]
theorem or_all : ((List.range 256).all fun n => decide (Go.bits .or .i64 (wrap64 (((n / 16 : Nat) : Int) * 16)) ((n % 16 : Nat) : Int) = 16 * ((n / 16 : Nat) : Int) + ((n % 16 : Nat) : Int))) = true := by kernel_rfl
theorem or_nib (a b : Int) (h0 : 0 ≤ a) (h1 : a < 16) (h2 : 0 ≤ b) (h3 : b < 16) : Go.bits .or .i64 (wrap64 (a * 16)) b = 16 * a + b := by
  obtain ⟨n, rfl⟩ := Int.eq_ofNat_of_zero_le h0
  obtain ⟨m, rfl⟩ := Int.eq_ofNat_of_zero_le h2
  have h := of_decide_eq_true (List.all_eq_true.1 or_all (16 * n + m) (List.mem_range.2 (by omega)))
  rwa [show (16 * n + m) / 16 = n by omega, show (16 * n + m) % 16 = m by omega] at h
theorem valV_lt (x : Int) : valV x < 16 := by
  unfold valV
  split
  · omega
  · split <;> omega
theorem unhex_same (s : ByteArray) (hs : s.size ≤ 40000) : ∀ (d k i : Nat) (L : List Int), d < k → i + 2 * d = s.size → L.length ≤ i → ∃ r, spec_Unhex.l0 (k + 1) s L (i : Int) = some r ∧ impl_Unhex.l0 (k + 1) s L (i : Int) = some r := by
  intro d
  induction d with
  | zero =>
    intro k i L hk hi hL
    simp only [spec_Unhex.l0, impl_Unhex.l0]
    rw [if_neg (by omega), if_neg (by omega)]
    exact ⟨_, rfl, rfl⟩
  | succ d ih =>
    intro k i L hk hi hL
    obtain ⟨k, rfl⟩ : ∃ m, k = m + 1 := ⟨k - 1, by omega⟩
    have e1 : wrap64 ((i : Int) + 1) = (i : Int) + 1 := by unfold wrap64; omega
    have e2 : wrap64 ((i : Int) + 2) = ((i + 2 : Nat) : Int) := by unfold wrap64; omega
    have b1 := bt_range s (i : Int)
    have b2 := bt_range s ((i : Int) + 1)
    have v1 := hexU_at _ b1.1 b1.2
    have v2 := hexU_at _ b2.1 b2.2
    unfold hexU at v1 v2
    rw [spec_Unhex.l0, impl_Unhex.l0]
    rw [if_pos (by omega), if_pos (by omega), if_pos (by omega), if_pos (by omega), e1, v1, v2, spec_l01Value_eq k _ b1.1 b1.2, spec_l01Value_eq k _ b2.1 b2.2]
    simp only [Option.bind_some]
    rw [if_pos (c := 0 ≤ (i : Int) + 1) (by omega), if_pos (c := (i : Int) + 1 < (s.size : Int)) (by omega), if_pos (c := 0 ≤ (i : Int) + 1) (by omega), if_pos (c := (i : Int) + 1 < (s.size : Int)) (by omega)]
    have l1 := valV_lt (bt s (i : Int))
    have l2 := valV_lt (bt s ((i : Int) + 1))
    generalize valV (bt s (i : Int)) = a at l1 ⊢
    generalize valV (bt s ((i : Int) + 1)) = b at l2 ⊢
    by_cases c1 : a < 0
    · rw [if_pos c1, if_pos c1]
      exact ⟨_, rfl, rfl⟩
    by_cases c2 : b < 0
    · rw [if_neg c1, if_neg c1, if_pos c2, if_pos c2]
      exact ⟨_, rfl, rfl⟩
    rw [if_neg c1, if_neg c1, if_neg c2, if_neg c2, if_pos (by omega), if_pos (by omega), or_nib a b (by omega) l1 (by omega) l2, e2]
    have e3 : wrap64 (wrap64 (16 * a) + b) = 16 * a + b := by
      have e4 : wrap64 (16 * a) = 16 * a := by unfold wrap64; omega
      rw [e4]
      unfold wrap64; omega
    rw [e3]
    refine ih k (i + 2) _ (by omega) (by omega) ?_
    rw [List.length_append, List.length_cons, List.length_nil]
    omega
theorem FnExactUnhex : laws_FnExactUnhex.Pure := by
  intro s _
  refine ⟨40003, ?_⟩
  unfold laws_FnExactUnhex.f
  by_cases h : (s.size : Int) > 1048576
  · rw [if_pos h]
  rw [if_neg h]
  unfold spec_Unhex.f impl_Unhex.f
  have out1 : ∀ k, spec_Unhex.j0 (k + 1) s true = some ((⟨#[]⟩ : ByteArray), false) := fun k => by rw [spec_Unhex.j0, if_pos rfl]
  have out2 : ∀ k, impl_Unhex.j0 (k + 1) s true = some ((⟨#[]⟩ : ByteArray), false) := fun k => by rw [impl_Unhex.j0, if_pos rfl]
  have fin : ∀ (r : ByteArray × Bool), ((some r).bind fun bt117 => ((some r).bind fun bt119 => (if bt119.1.toList = bt117.1.toList then (if (bt119.2 != bt117.2) = true then (some false) else (some true)) else (some false)))) = some true := fun r => by simp
  by_cases h2 : (s.size : Int) > 40000
  · rw [if_pos h2, out1]
    by_cases h3 : ((s.size : Int) % 2) = 0
    · rw [if_pos h3, show decide ((s.size : Int) > 40000) = true from decide_eq_true h2, out2]
      exact fin _
    · rw [if_neg h3, out2]
      exact fin _
  · rw [if_neg h2]
    by_cases h3 : ((s.size : Int) % 2) = 0
    · rw [if_pos h3, show decide ((s.size : Int) > 40000) = false from decide_eq_false h2, show (((s.size : Int) % 2) != 0) = false by simp [h3]]
      have e : wrap64 ((s.size : Int) / 2) = (s.size : Int) / 2 := by unfold wrap64; omega
      obtain ⟨r, e1, e2⟩ := unhex_same s (by omega) (s.size / 2) 40001 0 [] (by omega) (by omega) (by simp)
      rw [spec_Unhex.j0, impl_Unhex.j0, if_neg (by decide), if_neg (by decide), e, if_pos (by omega), if_pos (by omega)]
      have e3 : (((0 : Nat) : Int)) = 0 := rfl
      rw [e3] at e1 e2
      rw [e1, e2]
      exact fin r
    · rw [if_neg h3, show (((s.size : Int) % 2) != 0) = true by simp [h3], out1, out2]
      exact fin _

end Go.Proofs.Ytaniffkmdiibpaa.Pure
