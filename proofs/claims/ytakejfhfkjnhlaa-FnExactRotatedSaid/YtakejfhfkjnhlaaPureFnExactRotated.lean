/- Proved: Rotated of the program and of the reference agree at every text of at most 2^20 bytes and every number (the law asks no more). Conditions: none. -/
import Derived.Test.YtakejfhfkjnhlaaPFnExactRotatedx1
import Derived.Test.YtakejfhfkjnhlaaMod
import Derived.Test.YtakejfhfkjnhlaaWordTurn
set_option linter.unusedVariables false
set_option linter.unusedSimpArgs false
namespace Go.Proofs.Ytakejfhfkjnhlaa.Pure
open Go.RowKit Go.Proofs.Ytakejfhfkjnhlaa.PFnExactRotated Go.Proofs.YtakejfhfkjnhlaaW.PrintWords Go.Proofs.YtakejfhfkjnhlaaW.PrintLast Go.Proofs.YtakejfhfkjnhlaaW.PrintMore
open Go.Proofs.Ytakejfhfkjnhlaa.M

theorem spec_l03Bytes_l0 (x : Nat) : ∀ (d k : Nat) (l : List Int), d ≤ 8 → d < k → l.length = 8 - d → spec_l03Bytes.l0 k x (l ++ List.replicate d 0) ((8 - d : Nat) : Int) = some (strOfNums (l ++ (leB d (x / 256 ^ (8 - d))).map fun (b : Nat) => (b : Int))) := by
  intro d
  induction d with
  | zero =>
    intro k l _ hk _
    obtain ⟨k, rfl⟩ : ∃ m, k = m + 1 := ⟨k - 1, by omega⟩
    simp only [spec_l03Bytes.l0]
    rw [if_neg (by omega)]
    simp [leB]
  | succ d ih =>
    intro k l hd hk hl
    obtain ⟨k, rfl⟩ : ∃ m, k = m + 1 := ⟨k - 1, by omega⟩
    simp only [spec_l03Bytes.l0]
    have hw : 0 ≤ IntKind.u64.wrap (8 * IntKind.u64.wrap ((8 - (d + 1) : Nat) : Int)) := by
      rw [u64_mod]
      omega
    have hlen : (l ++ List.replicate (d + 1) (0 : Int)).length = 8 := by
      rw [List.length_append, List.length_replicate]
      omega
    rw [if_pos (by omega), if_pos hw, if_pos (by omega), if_pos (by rw [hlen]; omega), wrap_nat' _ (by omega), show 8 - (d + 1) + 1 = 8 - d by omega, shr_byte x _ (by omega)]
    have e : (l ++ List.replicate (d + 1) (0 : Int)).set ((8 - (d + 1) : Nat) : Int).toNat (((x / 256 ^ (8 - (d + 1)) : Nat) : Int) % 256) = (l ++ [((x / 256 ^ (8 - (d + 1)) % 256 : Nat) : Int)]) ++ List.replicate d 0 := by
      rw [Int.toNat_natCast, List.set_append_right _ _ (by omega), ← hl, Nat.sub_self, List.replicate_succ, List.set_cons_zero, List.append_assoc]
      rfl
    rw [e, ih k _ (by omega) (by omega) (by simp; omega)]
    have e2 : x / 256 ^ (8 - (d + 1)) / 256 = x / 256 ^ (8 - d) := by
      rw [Nat.div_div_eq_div_mul, ← Nat.pow_succ, show (8 - (d + 1)).succ = 8 - d by omega]
    rw [show leB (d + 1) (x / 256 ^ (8 - (d + 1))) = x / 256 ^ (8 - (d + 1)) % 256 :: leB d (x / 256 ^ (8 - (d + 1)) / 256) from rfl, e2]
    simp
theorem spec_l03Bytes_eq (k : Nat) (hk : 9 ≤ k) (x : Nat) : spec_l03Bytes.f k x = some (strOfNums ((leB 8 x).map fun (b : Nat) => (b : Int))) := by
  unfold spec_l03Bytes.f
  rw [if_pos (by decide)]
  have h := spec_l03Bytes_l0 x 8 k [] (by omega) (by omega) (by simp)
  simpa using h
theorem spec_l03Turn_eq (x k : Nat) (hx : x < 2 ^ 64) (hk : k < 64) : spec_l03Turn.f x k = some ((rotN x k : Nat) : Int) := by
  unfold spec_l03Turn.f
  rw [if_pos (by omega), if_pos (by rw [u64_mod]; omega), rot_int x k hx hk]
theorem spec_l03Word_l0 (s : ByteArray) (hs : s.size = 8) : ∀ (j k : Nat), j ≤ 8 → j < k → spec_l03Word.l0 k s 0 ((leV ((byteNs s).drop j) : Nat) : Int) ((j : Int) - 1) = some ((leV (byteNs s) : Nat) : Int) := by
  intro j
  induction j with
  | zero =>
    intro k _ hk
    obtain ⟨k, rfl⟩ : ∃ m, k = m + 1 := ⟨k - 1, by omega⟩
    simp only [spec_l03Word.l0]
    rw [if_neg (by omega), List.drop_zero]
  | succ j ih =>
    intro k hj hk
    obtain ⟨k, rfl⟩ : ∃ m, k = m + 1 := ⟨k - 1, by omega⟩
    simp only [spec_l03Word.l0]
    have e : wrap64 (0 + (((j + 1 : Nat) : Int) - 1)) = (j : Int) := by unfold wrap64; omega
    have e2 : wrap64 ((((j + 1 : Nat) : Int) - 1) - 1) = (j : Int) - 1 := by unfold wrap64; omega
    rw [if_pos (by omega), e, e2, if_pos (by omega), if_pos (by omega)]
    have hb := bt_nat s (j : Int)
    have hv := byteNs_drop s j (by omega)
    have ho := or_byte (leV ((byteNs s).drop (j + 1))) (bt s (j : Int)).toNat (leV_drop s hs j (by omega)) hb.2
    rw [hb.1] at ho
    rw [ho]
    have e3 : leV ((byteNs s).drop (j + 1)) * 256 + (bt s (j : Int)).toNat = leV ((byteNs s).drop j) := by
      rw [hv, leV]
      omega
    rw [e3]
    exact ih k (by omega) (by omega)
theorem spec_l03Word_eq (k : Nat) (hk : 9 ≤ k) (s : ByteArray) (hs : s.size = 8) : spec_l03Word.f k s 0 = some ((leV (byteNs s) : Nat) : Int) := by
  have h := spec_l03Word_l0 s hs 8 k (by omega) (by omega)
  rw [List.drop_eq_nil_of_le (by rw [byteNs_length]; omega)] at h
  exact h
def rotatedOf (s : ByteArray) (n : Int) : ByteArray :=
  if s.size = 8 ∧ 0 ≤ n then strOfNums ((leB 8 (rotN (leV (byteNs s)) (n.toNat % 64))).map fun (b : Nat) => (b : Int)) else s
theorem spec_Rotated_eq (k : Nat) (hk : 10 ≤ k) (s : ByteArray) (n : Int) (hn : n ≤ 9223372036854775807) : spec_Rotated.f k s n = some (rotatedOf s n) := by
  obtain ⟨k, rfl⟩ : ∃ m, k = m + 1 := ⟨k - 1, by omega⟩
  unfold spec_Rotated.f rotatedOf
  by_cases hs : s.size = 8
  · rw [if_pos (by omega)]
    simp only [spec_Rotated.j0]
    by_cases h : n < 0
    · rw [if_pos (by simp [h]), if_neg (by omega)]
    · obtain ⟨m, rfl⟩ : ∃ m : Nat, n = (m : Int) := ⟨n.toNat, by omega⟩
      rw [if_neg (c := decide ((m : Int) < 0) = true) (by simp only [decide_eq_true_eq]; omega), if_pos (c := s.size = 8 ∧ (0 : Int) ≤ (m : Int)) ⟨hs, by omega⟩, Int.toNat_natCast]
      have e : IntKind.u64.wrap (Int.tmod (m : Int) 64) = ((m % 64 : Nat) : Int) := by
        rw [Int.tmod_eq_emod_of_nonneg (by omega), u64_id _ (by omega) (by omega)]
        omega
      rw [e, spec_l03Word_eq k (by omega) s hs, Option.bind_some, spec_l03Turn_eq _ _ (leV_word s hs) (by omega), Option.bind_some, spec_l03Bytes_eq k (by omega), Option.bind_some]
      by_cases h0 : m % 64 = 0
      · rw [if_pos (by omega), h0, rotN_zero _ (leV_word s hs), str_word s hs]
      · rw [if_neg (by omega)]
  · rw [if_neg (by omega), if_neg (by omega)]
    simp [spec_Rotated.j0]
theorem impl_wordBytes_l0 : ∀ (d k x : Nat) (l : List Int), d ≤ 8 → d < k → l.length + d ≤ 1000 → impl_wordBytes.l0 k l x ((8 - d : Nat) : Int) = some (l ++ (leB d x).map fun (b : Nat) => (b : Int)) := by
  intro d
  induction d with
  | zero =>
    intro k x l _ hk _
    obtain ⟨k, rfl⟩ : ∃ m, k = m + 1 := ⟨k - 1, by omega⟩
    simp only [impl_wordBytes.l0]
    rw [if_neg (by omega)]
    simp [leB]
  | succ d ih =>
    intro k x l hd hk hl
    obtain ⟨k, rfl⟩ : ∃ m, k = m + 1 := ⟨k - 1, by omega⟩
    simp only [impl_wordBytes.l0]
    rw [if_pos (by omega), if_pos (by omega), wrap_nat' _ (by omega), show 8 - (d + 1) + 1 = 8 - d by omega, show (x : Int) / 256 = ((x / 256 : Nat) : Int) by omega]
    rw [ih k (x / 256) _ (by omega) (by omega) (by simp; omega)]
    simp [leB]
theorem impl_wordBytes_eq (k : Nat) (hk : 9 ≤ k) (x : Nat) : impl_wordBytes.f k [] x = some ((leB 8 x).map fun (b : Nat) => (b : Int)) := by
  have h := impl_wordBytes_l0 8 k x [] (by omega) (by omega) (by simp)
  rw [List.nil_append] at h
  exact h
theorem bits_RotateLeft64_eq (x k : Nat) (hx : x < 2 ^ 64) (hk : k < 64) : bits_RotateLeft64.f x k = some ((rotN x k : Nat) : Int) := by
  unfold bits_RotateLeft64.f
  rw [u64_id (k : Int) (by omega) (by omega), and_63 k (by omega), Nat.mod_eq_of_lt hk]
  rw [if_pos (by omega), if_pos (by rw [u64_mod]; omega), rot_int x k hx hk]
theorem impl_wordAt_l0 (s : ByteArray) (hs : s.size = 8) : ∀ (j k : Nat), j ≤ 8 → j < k → impl_wordAt.l0 k s 0 ((leV ((byteNs s).drop j) : Nat) : Int) ((j : Int) - 1) = some ((leV (byteNs s) : Nat) : Int) := by
  intro j
  induction j with
  | zero =>
    intro k _ hk
    obtain ⟨k, rfl⟩ : ∃ m, k = m + 1 := ⟨k - 1, by omega⟩
    simp only [impl_wordAt.l0]
    rw [if_neg (by omega), List.drop_zero]
  | succ j ih =>
    intro k hj hk
    obtain ⟨k, rfl⟩ : ∃ m, k = m + 1 := ⟨k - 1, by omega⟩
    simp only [impl_wordAt.l0]
    have e : wrap64 (0 + (((j + 1 : Nat) : Int) - 1)) = (j : Int) := by unfold wrap64; omega
    have e2 : wrap64 ((((j + 1 : Nat) : Int) - 1) - 1) = (j : Int) - 1 := by unfold wrap64; omega
    rw [if_pos (by omega), e, e2, if_pos (by omega), if_pos (by omega)]
    have hb := bt_nat s (j : Int)
    have hv := byteNs_drop s j (by omega)
    have ho := or_byte (leV ((byteNs s).drop (j + 1))) (bt s (j : Int)).toNat (leV_drop s hs j (by omega)) hb.2
    rw [hb.1] at ho
    rw [ho]
    have e3 : leV ((byteNs s).drop (j + 1)) * 256 + (bt s (j : Int)).toNat = leV ((byteNs s).drop j) := by
      rw [hv, leV]
      omega
    rw [e3]
    exact ih k (by omega) (by omega)
theorem impl_wordAt_eq (k : Nat) (hk : 9 ≤ k) (s : ByteArray) (hs : s.size = 8) : impl_wordAt.f k s 0 = some ((leV (byteNs s) : Nat) : Int) := by
  have h := impl_wordAt_l0 s hs 8 k (by omega) (by omega)
  rw [List.drop_eq_nil_of_le (by rw [byteNs_length]; omega)] at h
  exact h
theorem impl_Rotated_eq (k : Nat) (hk : 10 ≤ k) (s : ByteArray) (n : Int) (hn : n ≤ 9223372036854775807) : impl_Rotated.f k s n = some (rotatedOf s n) := by
  obtain ⟨k, rfl⟩ : ∃ m, k = m + 1 := ⟨k - 1, by omega⟩
  unfold impl_Rotated.f rotatedOf
  by_cases hs : s.size = 8
  · rw [if_pos (by omega)]
    simp only [impl_Rotated.j0]
    by_cases h : n < 0
    · rw [if_pos (by simp [h]), if_neg (by omega)]
    · obtain ⟨m, rfl⟩ : ∃ m : Nat, n = (m : Int) := ⟨n.toNat, by omega⟩
      rw [if_neg (c := decide ((m : Int) < 0) = true) (by simp only [decide_eq_true_eq]; omega), if_pos (c := s.size = 8 ∧ (0 : Int) ≤ (m : Int)) ⟨hs, by omega⟩, Int.toNat_natCast]
      have e : Int.tmod (m : Int) 64 = ((m % 64 : Nat) : Int) := by
        rw [Int.tmod_eq_emod_of_nonneg (by omega)]
        omega
      rw [e, impl_wordAt_eq k (by omega) s hs, Option.bind_some, bits_RotateLeft64_eq _ _ (leV_word s hs) (by omega), Option.bind_some, impl_wordBytes_eq k (by omega), Option.bind_some]
  · rw [if_neg (by omega), if_neg (by omega)]
    simp [impl_Rotated.j0]
theorem FnExactRotated : laws_FnExactRotated.Pure := by
  intro s n _ hn
  have hb := i64_bounds hn
  refine ⟨12, ?_⟩
  unfold laws_FnExactRotated.f
  by_cases h : (s.size : Int) > 1048576
  · rw [if_pos h]
  rw [if_neg h, spec_Rotated_eq 12 (by omega) s n hb.2, impl_Rotated_eq 12 (by omega) s n hb.2]
  simp

end Go.Proofs.Ytakejfhfkjnhlaa.Pure
