/- Proved: Unsealed of the program and of the reference agree at every text of at most 2^20 bytes (the law asks no more). Conditions: none. -/
import Derived.Test.YtaniffkmdiibpaaPFnExactUnsealedx3
import Derived.Test.YtaniffkmdiibpaaMod
import Derived.Test.YtaniffkmdiibpaaCrc
set_option linter.unusedVariables false
set_option linter.unusedSimpArgs false
namespace Go.Proofs.Ytaniffkmdiibpaa.Pure
open Go.RowKit Go.Proofs.Ytaniffkmdiibpaa.PFnExactUnsealed Go.Proofs.YtaniffkmdiibpaaW.PrintWords Go.Proofs.YtaniffkmdiibpaaW.PrintLast Go.Proofs.YtaniffkmdiibpaaW.PrintMore
open Go.Proofs.Ytaniffkmdiibpaa.M

theorem spec_SumMore_l1 (s : ByteArray) (i : Int) : ∀ (d k x : Nat), d ≤ 8 → x < 4294967296 →
    spec_SumMore.l1 (k + d + 1) x s i ((8 - d : Nat) : Int) = spec_SumMore.l0 k (crcBits d x : Nat) s (wrap64 (i + 1)) := by
  intro d
  induction d with
  | zero =>
    intro k x _ hx
    simp only [spec_SumMore.l1]
    rw [if_neg (by omega)]
    rfl
  | succ d ih =>
    intro k x hd hx
    rw [show k + (d + 1) + 1 = (k + d + 1) + 1 by omega]
    generalize hm : k + d + 1 = m
    simp only [spec_SumMore.l1]
    rw [← hm]
    rw [if_pos (by omega), wrap_nat' _ (by omega), show 8 - (d + 1) + 1 = 8 - d by omega]
    have e1 : Int.tmod (x : Int) 2 = ((x % 2 : Nat) : Int) := by rw [Int.tmod_eq_emod_of_nonneg (by omega)]; omega
    have e2 : Int.tdiv (x : Int) 2 % 4294967296 = ((x / 2 : Nat) : Int) := by rw [Int.tdiv_eq_ediv_of_nonneg (by omega)]; omega
    rw [e1, e2]
    by_cases h : x % 2 = 1
    · rw [if_pos (by omega)]
      have hy := xor_nat (x / 2) 3558460437 (by omega) (by omega)
      rw [show ((3558460437 : Nat) : Int) = 3558460437 from rfl] at hy
      rw [hy, ih k _ (by omega) (Nat.xor_lt_two_pow (n := 32) (by omega) (by omega))]
      simp only [crcBits, crcBit, if_pos h]
    · rw [if_neg (by omega), ih k _ (by omega) (by omega)]
      simp only [crcBits, crcBit, if_neg h]
theorem spec_SumMore_l0 (s : ByteArray) (hs : s.size ≤ 1048576) : ∀ (d k i x : Nat), 10 * d + 1 ≤ k → i + d = s.size → x < 4294967296 →
    spec_SumMore.l0 k x s i = some ((crcL x ((byteNs s).drop i) : Nat) : Int) := by
  intro d
  induction d with
  | zero =>
    intro k i x hk hi hx
    obtain ⟨k, rfl⟩ : ∃ j, k = j + 1 := ⟨k - 1, by omega⟩
    simp only [spec_SumMore.l0]
    rw [if_neg (by omega), List.drop_eq_nil_of_le (by rw [byteNs_length]; omega)]
    rfl
  | succ d ih =>
    intro k i x hk hi hx
    obtain ⟨k, rfl⟩ : ∃ j, k = j + 8 + 1 + 1 := ⟨k - 10, by omega⟩
    simp only [spec_SumMore.l0]
    rw [if_pos (by omega), if_pos (by omega)]
    have hb := bt_nat s (i : Int)
    have e : bt s (i : Int) % 4294967296 = (((bt s (i : Int)).toNat : Nat) : Int) := by omega
    rw [e, xor_nat x _ hx (by omega)]
    have hl := spec_SumMore_l1 s (i : Int) 8 k (x ^^^ (bt s (i : Int)).toNat) (by omega) (Nat.xor_lt_two_pow (n := 32) hx (by omega))
    rw [show ((8 - 8 : Nat) : Int) = 0 from rfl] at hl
    rw [hl, wrap_nat' i (by omega), show crcBits 8 (x ^^^ (bt s (i : Int)).toNat) = crcByte x (bt s (i : Int)).toNat from rfl, ih k (i + 1) _ (by omega) (by omega) (crcByte_lt x _ hx hb.2), byteNs_drop s i (by omega)]
    rfl
theorem spec_SumMore_eq (k : Nat) (x : Nat) (hx : x < 4294967296) (s : ByteArray) (hs : s.size ≤ 1048576) (hk : 11000000 ≤ k) : spec_SumMore.f k x s = some ((crcL x (byteNs s) : Nat) : Int) :=
  spec_SumMore_l0 s hs s.size k 0 x (by omega) (by omega) hx
theorem spec_SumOf_eq (k : Nat) (s : ByteArray) (hs : s.size ≤ 1048576) (hk : 11000000 ≤ k) : spec_SumOf.f k s = some ((crcL 4294967295 (byteNs s) : Nat) : Int) := by
  unfold spec_SumOf.f
  have h := spec_SumMore_eq k 4294967295 (by omega) s hs hk
  rw [show ((4294967295 : Nat) : Int) = 4294967295 from rfl] at h
  rw [h]
  rfl
theorem spec_l02Four_eq (x : Nat) : spec_l02Four.f (x : Int) = some (four x) := rfl
theorem spec_Unsealed_eq (k : Nat) (s : ByteArray) (hs : s.size ≤ 1048576) (hk : 11000000 ≤ k) : spec_Unsealed.f k s = some (unsealedOf s) := by
  unfold spec_Unsealed.f unsealedOf
  have e : wrap64 ((s.size : Int) - 4) = (s.size : Int) - 4 := by unfold wrap64; omega
  rw [e]
  by_cases h : s.size < 4
  · rw [if_pos (by omega), if_pos (Or.inl h)]
  by_cases h2 : s.size > 20004
  · rw [if_neg (by omega), if_pos (by omega), if_pos (Or.inr (Or.inl h2))]
  rw [if_neg (by omega), if_neg (by omega), if_pos (by omega), if_pos (by omega), show ((s.size : Int) - 4).toNat = s.size - 4 by omega]
  have hz : (s.extract 0 (s.size - 4)).size ≤ 1048576 := by simp [ByteArray.size_extract]; omega
  simp only [spec_SumOf_eq k _ hz hk, spec_l02Four_eq, Option.bind_some]
  by_cases h3 : (s.extract (s.size - 4) s.size).toList = (four (crcL 4294967295 (byteNs (s.extract 0 (s.size - 4))))).toList
  · rw [if_pos h3, if_neg (by rintro (q | q | q); omega; omega; exact q h3.symm)]
  · rw [if_neg h3, if_pos (Or.inr (Or.inr (fun q => h3 q.symm)))]
theorem impl_SumMore_l1 (s : ByteArray) (i : Int) : ∀ (d k x : Nat), d ≤ 8 → x < 4294967296 →
    impl_SumMore.l1 (k + d + 1) x s i ((8 - d : Nat) : Int) = impl_SumMore.l0 k (crcBits d x : Nat) s (wrap64 (i + 1)) := by
  intro d
  induction d with
  | zero =>
    intro k x _ hx
    simp only [impl_SumMore.l1]
    rw [if_neg (by omega)]
    rfl
  | succ d ih =>
    intro k x hd hx
    rw [show k + (d + 1) + 1 = (k + d + 1) + 1 by omega]
    generalize hm : k + d + 1 = m
    simp only [impl_SumMore.l1]
    rw [← hm]
    rw [if_pos (by omega), wrap_nat' _ (by omega), show 8 - (d + 1) + 1 = 8 - d by omega]
    have e2 : (x : Int) / 2 = ((x / 2 : Nat) : Int) := by omega
    rw [and_one x hx, e2]
    by_cases h : x % 2 = 1
    · rw [if_pos (by omega)]
      have hy := xor_nat (x / 2) 3558460437 (by omega) (by omega)
      rw [show ((3558460437 : Nat) : Int) = 3558460437 from rfl] at hy
      rw [hy, ih k _ (by omega) (Nat.xor_lt_two_pow (n := 32) (by omega) (by omega))]
      simp only [crcBits, crcBit, if_pos h]
    · rw [if_neg (by omega), ih k _ (by omega) (by omega)]
      simp only [crcBits, crcBit, if_neg h]
theorem impl_SumMore_l0 (s : ByteArray) (hs : s.size ≤ 1048576) : ∀ (d k i x : Nat), 10 * d + 1 ≤ k → i + d = s.size → x < 4294967296 →
    impl_SumMore.l0 k x s i = some ((crcL x ((byteNs s).drop i) : Nat) : Int) := by
  intro d
  induction d with
  | zero =>
    intro k i x hk hi hx
    obtain ⟨k, rfl⟩ : ∃ j, k = j + 1 := ⟨k - 1, by omega⟩
    simp only [impl_SumMore.l0]
    rw [if_neg (by omega), List.drop_eq_nil_of_le (by rw [byteNs_length]; omega)]
    rfl
  | succ d ih =>
    intro k i x hk hi hx
    obtain ⟨k, rfl⟩ : ∃ j, k = j + 8 + 1 + 1 := ⟨k - 10, by omega⟩
    simp only [impl_SumMore.l0]
    rw [if_pos (by omega), if_pos (by omega)]
    have hb := bt_nat s (i : Int)
    have e : bt s (i : Int) % 4294967296 = (((bt s (i : Int)).toNat : Nat) : Int) := by omega
    rw [e, xor_nat x _ hx (by omega)]
    have hl := impl_SumMore_l1 s (i : Int) 8 k (x ^^^ (bt s (i : Int)).toNat) (by omega) (Nat.xor_lt_two_pow (n := 32) hx (by omega))
    rw [show ((8 - 8 : Nat) : Int) = 0 from rfl] at hl
    rw [hl, wrap_nat' i (by omega), show crcBits 8 (x ^^^ (bt s (i : Int)).toNat) = crcByte x (bt s (i : Int)).toNat from rfl, ih k (i + 1) _ (by omega) (by omega) (crcByte_lt x _ hx hb.2), byteNs_drop s i (by omega)]
    rfl
theorem impl_SumMore_eq (k : Nat) (x : Nat) (hx : x < 4294967296) (s : ByteArray) (hs : s.size ≤ 1048576) (hk : 11000000 ≤ k) : impl_SumMore.f k x s = some ((crcL x (byteNs s) : Nat) : Int) :=
  impl_SumMore_l0 s hs s.size k 0 x (by omega) (by omega) hx
theorem impl_SumOf_eq (k : Nat) (s : ByteArray) (hs : s.size ≤ 1048576) (hk : 11000000 ≤ k) : impl_SumOf.f k s = some ((crcL 4294967295 (byteNs s) : Nat) : Int) := by
  unfold impl_SumOf.f
  have h := impl_SumMore_eq k 4294967295 (by omega) s hs hk
  rw [show ((4294967295 : Nat) : Int) = 4294967295 from rfl] at h
  rw [h]
  rfl
theorem impl_sumText_eq (k : Nat) (s : ByteArray) (hs : s.size ≤ 1048576) (hk : 11000000 ≤ k) : impl_sumText.f k s = some (four (crcL 4294967295 (byteNs s))) := by
  unfold impl_sumText.f
  rw [impl_SumOf_eq k s hs hk]
  rfl
theorem impl_Unsealed_eq (k : Nat) (s : ByteArray) (hs : s.size ≤ 1048576) (hk : 11000000 ≤ k) : impl_Unsealed.f k s = some (unsealedOf s) := by
  unfold impl_Unsealed.f unsealedOf
  have e : wrap64 ((s.size : Int) - 4) = (s.size : Int) - 4 := by unfold wrap64; omega
  rw [e]
  by_cases h : s.size < 4
  · rw [if_pos (by omega), if_pos (Or.inl h)]
  by_cases h2 : s.size > 20004
  · rw [if_neg (by omega), if_pos (by omega), if_pos (Or.inr (Or.inl h2))]
  rw [if_neg (by omega), if_neg (by omega), if_pos (by omega), if_pos (by omega), show ((s.size : Int) - 4).toNat = s.size - 4 by omega]
  have hz : (s.extract 0 (s.size - 4)).size ≤ 1048576 := by simp [ByteArray.size_extract]; omega
  simp only [impl_sumText_eq k _ hz hk, Option.bind_some]
  by_cases h3 : (four (crcL 4294967295 (byteNs (s.extract 0 (s.size - 4))))).toList = (s.extract (s.size - 4) s.size).toList
  · rw [if_pos h3, if_neg (by rintro (q | q | q); omega; omega; exact q h3)]
  · rw [if_neg h3, if_pos (Or.inr (Or.inr h3))]
theorem FnExactUnsealed : laws_FnExactUnsealed.Pure := by
  intro s _
  refine ⟨11000000, ?_⟩
  unfold laws_FnExactUnsealed.f
  by_cases h : (s.size : Int) > 1048576
  · rw [if_pos h]
  rw [if_neg h, spec_Unsealed_eq 11000000 s (by omega) (by omega), impl_Unsealed_eq 11000000 s (by omega) (by omega)]
  simp

end Go.Proofs.Ytaniffkmdiibpaa.Pure
