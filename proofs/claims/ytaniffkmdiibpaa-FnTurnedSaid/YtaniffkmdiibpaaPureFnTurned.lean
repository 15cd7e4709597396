/- Proved: the law FnTurned answers true at every draw: a text whose one byte is another is not Unsealed, for the check sum's steps are one-to-one. Conditions: none. -/
import Derived.Test.YtaniffkmdiibpaaQFnTurnedx3
import Derived.Test.YtaniffkmdiibpaaMod
import Derived.Test.YtaniffkmdiibpaaRead
import Derived.Test.YtaniffkmdiibpaaRb
import Derived.Test.YtaniffkmdiibpaaCrc
import Derived.Test.YtaniffkmdiibpaaDraw
set_option linter.unusedVariables false
set_option linter.unusedSimpArgs false
namespace Go.Proofs.Ytaniffkmdiibpaa.Pure
open Go.RowKit Go.Proofs.Ytaniffkmdiibpaa.PFnTurned Go.Proofs.YtaniffkmdiibpaaW.PrintWords Go.Proofs.YtaniffkmdiibpaaW.PrintLast Go.Proofs.YtaniffkmdiibpaaW.PrintMore
open Go.Proofs.Ytaniffkmdiibpaa.M

theorem impl_SumMore_l1 (s : ByteArray) (i : Int) : ∀ (d k x : Nat), d ≤ 8 → x < 4294967296 →
    impl_SumMore.l1 (k + d + 1) x s i ((8 - d : Nat) : Int) = impl_SumMore.l0 k (crcBits d x : Nat) s (wrap64 (i + 1)) := by
  intro d
  induction d with
  | zero =>
    intro k x _ hx
    simp only [impl_SumMore.l1]
    rw [if_neg (by omega)]
    rfl
  | succ d ih =>
    intro k x hd hx
    rw [show k + (d + 1) + 1 = (k + d + 1) + 1 by omega]
    generalize hm : k + d + 1 = m
    simp only [impl_SumMore.l1]
    rw [← hm]
    rw [if_pos (by omega), wrap_nat' _ (by omega), show 8 - (d + 1) + 1 = 8 - d by omega]
    have e2 : (x : Int) / 2 = ((x / 2 : Nat) : Int) := by omega
    rw [and_one x hx, e2]
    by_cases h : x % 2 = 1
    · rw [if_pos (by omega)]
      have hy := xor_nat (x / 2) 3558460437 (by omega) (by omega)
      rw [show ((3558460437 : Nat) : Int) = 3558460437 from rfl] at hy
      rw [hy, ih k _ (by omega) (Nat.xor_lt_two_pow (n := 32) (by omega) (by omega))]
      simp only [crcBits, crcBit, if_pos h]
    · rw [if_neg (by omega), ih k _ (by omega) (by omega)]
      simp only [crcBits, crcBit, if_neg h]
theorem impl_SumMore_l0 (s : ByteArray) (hs : s.size ≤ 1048576) : ∀ (d k i x : Nat), 10 * d + 1 ≤ k → i + d = s.size → x < 4294967296 →
    impl_SumMore.l0 k x s i = some ((crcL x ((byteNs s).drop i) : Nat) : Int) := by
  intro d
  induction d with
  | zero =>
    intro k i x hk hi hx
    obtain ⟨k, rfl⟩ : ∃ j, k = j + 1 := ⟨k - 1, by omega⟩
    simp only [impl_SumMore.l0]
    rw [if_neg (by omega), List.drop_eq_nil_of_le (by rw [byteNs_length]; omega)]
    rfl
  | succ d ih =>
    intro k i x hk hi hx
    obtain ⟨k, rfl⟩ : ∃ j, k = j + 8 + 1 + 1 := ⟨k - 10, by omega⟩
    simp only [impl_SumMore.l0]
    rw [if_pos (by omega), if_pos (by omega)]
    have hb := bt_nat s (i : Int)
    have e : bt s (i : Int) % 4294967296 = (((bt s (i : Int)).toNat : Nat) : Int) := by omega
    rw [e, xor_nat x _ hx (by omega)]
    have hl := impl_SumMore_l1 s (i : Int) 8 k (x ^^^ (bt s (i : Int)).toNat) (by omega) (Nat.xor_lt_two_pow (n := 32) hx (by omega))
    rw [show ((8 - 8 : Nat) : Int) = 0 from rfl] at hl
    rw [hl, wrap_nat' i (by omega), show crcBits 8 (x ^^^ (bt s (i : Int)).toNat) = crcByte x (bt s (i : Int)).toNat from rfl, ih k (i + 1) _ (by omega) (by omega) (crcByte_lt x _ hx hb.2), byteNs_drop s i (by omega)]
    rfl
theorem impl_SumMore_eq (k : Nat) (x : Nat) (hx : x < 4294967296) (s : ByteArray) (hs : s.size ≤ 1048576) (hk : 11000000 ≤ k) : impl_SumMore.f k x s = some ((crcL x (byteNs s) : Nat) : Int) :=
  impl_SumMore_l0 s hs s.size k 0 x (by omega) (by omega) hx
theorem impl_SumOf_eq (k : Nat) (s : ByteArray) (hs : s.size ≤ 1048576) (hk : 11000000 ≤ k) : impl_SumOf.f k s = some ((crcL 4294967295 (byteNs s) : Nat) : Int) := by
  unfold impl_SumOf.f
  have h := impl_SumMore_eq k 4294967295 (by omega) s hs hk
  rw [show ((4294967295 : Nat) : Int) = 4294967295 from rfl] at h
  rw [h]
  rfl
theorem impl_sumText_eq (k : Nat) (s : ByteArray) (hs : s.size ≤ 1048576) (hk : 11000000 ≤ k) : impl_sumText.f k s = some (four (crcL 4294967295 (byteNs s))) := by
  unfold impl_sumText.f
  rw [impl_SumOf_eq k s hs hk]
  rfl
theorem impl_Sealed_eq (k : Nat) (s : ByteArray) (hk : 11000000 ≤ k) : impl_Sealed.f k s = some (if s.size > 20000 then (⟨#[]⟩, false) else (s ++ four (crcL 4294967295 (byteNs s)), true)) := by
  unfold impl_Sealed.f
  by_cases h : s.size > 20000
  · rw [if_pos (by omega), if_pos h]
  · rw [if_neg (by omega), if_neg h]
    simp only [impl_sumText_eq k s (by omega) hk, Option.bind_some]
    rw [if_pos (by rw [four_size]; omega)]
theorem impl_Unsealed_eq (k : Nat) (s : ByteArray) (hs : s.size ≤ 1048576) (hk : 11000000 ≤ k) : impl_Unsealed.f k s = some (unsealedOf s) := by
  unfold impl_Unsealed.f unsealedOf
  have e : wrap64 ((s.size : Int) - 4) = (s.size : Int) - 4 := by unfold wrap64; omega
  rw [e]
  by_cases h : s.size < 4
  · rw [if_pos (by omega), if_pos (Or.inl h)]
  by_cases h2 : s.size > 20004
  · rw [if_neg (by omega), if_pos (by omega), if_pos (Or.inr (Or.inl h2))]
  rw [if_neg (by omega), if_neg (by omega), if_pos (by omega), if_pos (by omega), show ((s.size : Int) - 4).toNat = s.size - 4 by omega]
  have hz : (s.extract 0 (s.size - 4)).size ≤ 1048576 := by simp [ByteArray.size_extract]; omega
  simp only [impl_sumText_eq k _ hz hk, Option.bind_some]
  by_cases h3 : (four (crcL 4294967295 (byteNs (s.extract 0 (s.size - 4))))).toList = (s.extract (s.size - 4) s.size).toList
  · rw [if_pos h3, if_neg (by rintro (q | q | q); omega; omega; exact q h3)]
  · rw [if_neg h3, if_pos (Or.inr (Or.inr h3))]
theorem laws_big_eq (l : List Int) : laws_big.f l = some (decide ((l.length : Int) > 1048576)) := rfl
theorem spec_l01New_l0 (l : List Int) (hl : l.length ≤ 1048576) : ∀ (d k i : Nat) (h : Int), d + 1 ≤ k → i + d = 4000 → ∃ h', spec_l01New.l0 k l h i = some (l, 0, h') := by
  intro d
  induction d with
  | zero =>
    intro k i h hk hi
    obtain ⟨k, rfl⟩ : ∃ j, k = j + 1 := ⟨k - 1, by omega⟩
    refine ⟨h, ?_⟩
    simp only [spec_l01New.l0]
    by_cases hlt : (i : Int) < l.length
    · rw [if_pos hlt, if_neg (by omega)]
    · rw [if_neg hlt]
  | succ d ih =>
    intro k i h hk hi
    obtain ⟨k, rfl⟩ : ∃ j, k = j + 1 := ⟨k - 1, by omega⟩
    simp only [spec_l01New.l0]
    by_cases hlt : (i : Int) < l.length
    · rw [if_pos hlt, if_pos (by omega), if_pos (by omega), wrap_nat i (by omega)]
      exact ih k (i + 1) _ (by omega) (by omega)
    · rw [if_neg hlt]
      exact ⟨h, rfl⟩
theorem spec_l01New_some (l : List Int) (hl : l.length ≤ 1048576) (k : Nat) (hk : 5000 ≤ k) : ∃ h, spec_l01New.f k l = some (l, 0, h) :=
  spec_l01New_l0 l hl 4000 k 0 _ (by omega) (by omega)
theorem spec_l01Byte_some (l : List Int) (hl : l.length ≤ 1048576) (i h : Int) (h0 : 0 ≤ i) (h1 : i ≤ l.length) : ∃ x i' h', spec_l01Byte.f l i h = some (x, i', h') ∧ (0 ≤ x ∧ x ≤ 255) ∧ 0 ≤ i' ∧ i' ≤ l.length := by
  unfold spec_l01Byte.f
  by_cases hlt : i < (l.length : Int)
  · rw [if_pos hlt, if_pos h0]
    refine ⟨_, _, _, rfl, and255 _, ?_⟩
    unfold wrap64
    omega
  · rw [if_neg hlt]
    exact ⟨_, _, _, rfl, and255 _, h0, h1⟩
theorem spec_l01Text_l0 (l : List Int) (hl : l.length ≤ 1048576) (n : Int) (hn : n ≤ 5000) : ∀ (d k m : Nat) (out : List Int) (j h : Int), d + 1 ≤ k → (m : Int) + d = max n m → out.length = m → 0 ≤ j → j ≤ l.length →
    ∃ r j' h', spec_l01Text.l0 k n out m l j h = some (r, j', h') ∧ (r.size : Int) = max n m ∧ 0 ≤ j' ∧ j' ≤ l.length := by
  intro d
  induction d with
  | zero =>
    intro k m out j h hk hm ho h0 h1
    obtain ⟨k, rfl⟩ : ∃ q, k = q + 1 := ⟨k - 1, by omega⟩
    simp only [spec_l01Text.l0]
    rw [if_neg (by omega)]
    exact ⟨_, _, _, rfl, by rw [strOfNums_size, ho]; omega, h0, h1⟩
  | succ d ih =>
    intro k m out j h hk hm ho h0 h1
    obtain ⟨k, rfl⟩ : ∃ q, k = q + 1 := ⟨k - 1, by omega⟩
    simp only [spec_l01Text.l0]
    obtain ⟨x, j1, g1, e1, hx, a1, b1⟩ := spec_l01Byte_some l hl j h h0 h1
    rw [if_pos (by omega), e1]
    simp only [Option.bind_some]
    rw [if_pos (by omega), wrap_nat' m (by omega)]
    obtain ⟨r, j', h', e2, hs, a2, b2⟩ := ih k (m + 1) (out ++ [x % 256]) j1 g1 (by omega) (by omega) (by simp [ho]) a1 b1
    exact ⟨r, j', h', e2, by omega, a2, b2⟩
theorem spec_l01Text_some (l : List Int) (hl : l.length ≤ 1048576) (j h n : Int) (h0 : 0 ≤ j) (h1 : j ≤ l.length) (k : Nat) (hk : 5003 ≤ k) : ∃ r j' h', spec_l01Text.f k l j h n = some (r, j', h') ∧ (r.size : Int) ≤ 5000 ∧ ((r.size : Int) ≤ n ∨ r.size = 0) ∧ 0 ≤ j' ∧ j' ≤ l.length := by
  obtain ⟨k, rfl⟩ : ∃ q, k = q + 1 := ⟨k - 1, by omega⟩
  have main : ∀ q : Int, q ≤ 5000 → ∃ r j' h', spec_l01Text.j0 (k + 1) q l j h = some (r, j', h') ∧ (r.size : Int) = max q 0 ∧ 0 ≤ j' ∧ j' ≤ l.length := by
    intro q hq
    obtain ⟨r, j', h', e, hs, a, b⟩ := spec_l01Text_l0 l hl q hq (max q 0).toNat k 0 [] j h (by omega) (by omega) rfl h0 h1
    refine ⟨r, j', h', ?_, hs, a, b⟩
    rw [spec_l01Text.j0]
    exact e
  unfold spec_l01Text.f
  by_cases hn : n > 5000
  · rw [if_pos hn]
    obtain ⟨r, j', h', e, hs, a, b⟩ := main 5000 (by omega)
    exact ⟨r, j', h', e, by omega, by omega, a, b⟩
  · rw [if_neg hn]
    obtain ⟨r, j', h', e, hs, a, b⟩ := main n (by omega)
    exact ⟨r, j', h', e, by omega, by omega, a, b⟩
theorem spec_l01Below_some (l : List Int) (hl : l.length ≤ 1048576) (i h n : Int) (h0 : 0 ≤ i) (h1 : i ≤ l.length) : ∃ x i' h', spec_l01Below.f l i h n = some (x, i', h') ∧ (0 ≤ x ∧ (n ≤ 0 → x = 0) ∧ (0 < n → x < n)) ∧ 0 ≤ i' ∧ i' ≤ l.length := by
  unfold spec_l01Below.f
  by_cases hn : n ≤ 0
  · rw [if_pos hn]
    exact ⟨_, _, _, rfl, ⟨by omega, fun _ => rfl, fun q => by omega⟩, h0, h1⟩
  · rw [if_neg hn]
    obtain ⟨x, i1, g1, e1, hx, a1, b1⟩ := spec_l01Byte_some l hl i h h0 h1
    by_cases hs : n ≤ 256
    · rw [if_pos hs, e1]
      simp only [Option.bind_some]
      rw [if_neg (by omega)]
      refine ⟨_, _, _, rfl, ?_, a1, b1⟩
      rw [Int.tmod_eq_emod_of_nonneg hx.1]
      exact ⟨Int.emod_nonneg _ (by omega), fun q => by omega, fun q => Int.emod_lt_of_pos _ q⟩
    · obtain ⟨y, i2, g2, e2, hy, a2, b2⟩ := spec_l01Byte_some l hl i1 g1 a1 b1
      obtain ⟨z, i3, g3, e3, hz, a3, b3⟩ := spec_l01Byte_some l hl i2 g2 a2 b2
      obtain ⟨t, i4, g4, e4, ht, a4, b4⟩ := spec_l01Byte_some l hl i3 g3 a3 b3
      rw [if_neg hs, e1]
      simp only [Option.bind_some, e2, e3, e4]
      rw [if_neg (by omega)]
      refine ⟨_, _, _, rfl, ?_, a4, b4⟩
      have hw : 0 ≤ wrap64 (wrap64 (wrap64 (wrap64 (x * 16777216) + wrap64 (y * 65536)) + wrap64 (z * 256)) + t) := by
        unfold wrap64
        omega
      rw [Int.tmod_eq_emod_of_nonneg hw]
      exact ⟨Int.emod_nonneg _ (by omega), fun q => by omega, fun q => Int.emod_lt_of_pos _ q⟩
theorem spec_DrawSumOf_some (l : List Int) (hl : l.length ≤ 1048576) (k : Nat) (hk : 5003 ≤ k) : ∃ r, spec_DrawSumOf.f k l = some r ∧ r.size ≤ 5000 := by
  unfold spec_DrawSumOf.f
  obtain ⟨h, e⟩ := spec_l01New_some l hl k (by omega)
  obtain ⟨x, j1, g1, e1, hx, a1, b1⟩ := spec_l01Below_some l hl 0 h 40 (by omega) (by omega)
  obtain ⟨r, j2, g2, e2, hs, _, a2, b2⟩ := spec_l01Text_some l hl j1 g1 x a1 b1 k hk
  rw [e]
  simp only [Option.bind_some, e1, e2]
  exact ⟨r, rfl, by omega⟩
theorem spec_DrawPlaces_l0 (l : List Int) (hl : l.length ≤ 1048576) : ∀ (d k i : Nat) (out : List Int) (j h : Int), d + 1 ≤ k → i + d = 12 → out.length = i → (∀ x ∈ out, 0 ≤ x ∧ x < 10000) → 0 ≤ j → j ≤ l.length →
    ∃ r, spec_DrawPlaces.l0 k out i l j h = some r ∧ r.length = 12 ∧ ∀ x ∈ r, 0 ≤ x ∧ x < 10000 := by
  intro d
  induction d with
  | zero =>
    intro k i out j h hk hi ho hall h0 h1
    obtain ⟨k, rfl⟩ : ∃ m, k = m + 1 := ⟨k - 1, by omega⟩
    simp only [spec_DrawPlaces.l0]
    rw [if_neg (by omega)]
    exact ⟨out, rfl, by omega, hall⟩
  | succ d ih =>
    intro k i out j h hk hi ho hall h0 h1
    obtain ⟨k, rfl⟩ : ∃ m, k = m + 1 := ⟨k - 1, by omega⟩
    simp only [spec_DrawPlaces.l0]
    obtain ⟨x, j1, g1, e1, hx, a1, b1⟩ := spec_l01Below_some l hl j h 10000 h0 h1
    rw [if_pos (by omega), e1]
    simp only [Option.bind_some]
    rw [if_pos (by omega), wrap_nat i (by omega)]
    refine ih k (i + 1) _ j1 g1 (by omega) (by omega) (by simp [ho]) (fun y hy => ?_) a1 b1
    rcases List.mem_append.1 hy with hy | hy
    · exact hall y hy
    · simp at hy
      rw [hy]
      exact ⟨hx.1, hx.2.2 (by omega)⟩
theorem spec_DrawPlaces_some (l : List Int) (hl : l.length ≤ 1048576) (k : Nat) (hk : 5000 ≤ k) : ∃ r, spec_DrawPlaces.f k l = some r ∧ r.length = 12 ∧ ∀ x ∈ r, 0 ≤ x ∧ x < 10000 := by
  unfold spec_DrawPlaces.f
  obtain ⟨h, e⟩ := spec_l01New_some l hl k hk
  obtain ⟨x, j1, g1, e1, hx, a1, b1⟩ := spec_l01Byte_some l hl 0 h (by omega) (by omega)
  rw [e]
  simp only [Option.bind_some, e1]
  exact spec_DrawPlaces_l0 l hl 12 k 0 [] j1 g1 (by omega) (by omega) rfl (by simp) a1 b1
theorem bit31 : Nat.testBit 3558460437 31 = true := by decide
theorem xor_rc {a b c : Nat} (h : a ^^^ c = b ^^^ c) : a = b := by
  have h2 := congrArg (fun n => n ^^^ c) h
  simpa [Nat.xor_assoc] using h2
theorem xor_lc {a b c : Nat} (h : c ^^^ a = c ^^^ b) : a = b := by
  rw [Nat.xor_comm c a, Nat.xor_comm c b] at h
  exact xor_rc h
theorem crcBit_inj {x y : Nat} (hx : x < 4294967296) (hy : y < 4294967296) (h : crcBit x = crcBit y) : x = y := by
  have top : ∀ a b : Nat, a < 4294967296 → b < 4294967296 → (a / 2) ^^^ 3558460437 ≠ b / 2 := by
    intro a b ha hb e
    have h1 := congrArg (fun n => Nat.testBit n 31) e
    simp only [Nat.testBit_xor, bit31] at h1
    rw [Nat.testBit_lt_two_pow (show a / 2 < 2 ^ 31 by omega), Nat.testBit_lt_two_pow (show b / 2 < 2 ^ 31 by omega)] at h1
    exact absurd h1 (by decide)
  unfold crcBit at h
  by_cases p : x % 2 = 1
  · by_cases q : y % 2 = 1
    · rw [if_pos p, if_pos q] at h
      have := xor_rc h
      omega
    · rw [if_pos p, if_neg q] at h
      exact absurd h (top x y hx hy)
  · by_cases q : y % 2 = 1
    · rw [if_neg p, if_pos q] at h
      exact absurd h.symm (top y x hy hx)
    · rw [if_neg p, if_neg q] at h
      omega
theorem crcBits_inj : ∀ (d x y : Nat), x < 4294967296 → y < 4294967296 → crcBits d x = crcBits d y → x = y
  | 0, _, _, _, _, h => h
  | d + 1, x, y, hx, hy, h => crcBit_inj hx hy (crcBits_inj d _ _ (crcBit_lt x hx) (crcBit_lt y hy) h)
theorem crcByte_inj {x y b c : Nat} (hx : x < 4294967296) (hy : y < 4294967296) (hb : b < 256) (hc : c < 256) (h : crcByte x b = crcByte y c) : x ^^^ b = y ^^^ c :=
  crcBits_inj 8 _ _ (Nat.xor_lt_two_pow (n := 32) hx (by omega)) (Nat.xor_lt_two_pow (n := 32) hy (by omega)) h
theorem crcL_inj : ∀ (l : List Nat) (x y : Nat), x < 4294967296 → y < 4294967296 → (∀ b ∈ l, b < 256) → crcL x l = crcL y l → x = y
  | [], _, _, _, _, _, h => h
  | b :: l, x, y, hx, hy, hl, h => by
    have hb := hl b (by simp)
    have h2 := crcL_inj l (crcByte x b) (crcByte y b) (crcByte_lt x b hx hb) (crcByte_lt y b hy hb) (fun c hc => hl c (by simp [hc])) h
    exact xor_rc (crcByte_inj hx hy hb hb h2)
theorem crcL_set : ∀ (l : List Nat) (x i v : Nat) (hi : i < l.length), x < 4294967296 → (∀ b ∈ l, b < 256) → v < 256 → v ≠ l[i] → crcL x (l.set i v) ≠ crcL x l
  | [], _, _, _, hi, _, _, _, _ => by simp at hi
  | b :: l, x, 0, v, _, hx, hl, hv, hne => by
    intro h
    have hb := hl b (by simp)
    have h2 := crcL_inj l (crcByte x v) (crcByte x b) (crcByte_lt x v hx hv) (crcByte_lt x b hx hb) (fun c hc => hl c (by simp [hc])) h
    have h3 := xor_lc (crcByte_inj hx hx hv hb h2)
    exact hne h3
  | b :: l, x, i + 1, v, hi, hx, hl, hv, hne => by
    intro h
    exact crcL_set l (crcByte x b) i v (by simpa using hi) (crcByte_lt x b hx (hl b (by simp))) (fun c hc => hl c (by simp [hc])) hv (by simpa using hne) h
theorem four_nat (x : Nat) : byteNs (four x) = [x / 16777216 % 256, x / 65536 % 256, x / 256 % 256, x % 256] := by
  have h := byteNs_str [x / 16777216 % 256, x / 65536 % 256, x / 256 % 256, x % 256] (by
    intro y hy
    simp only [List.mem_cons, List.not_mem_nil, or_false] at hy
    omega)
  exact h
theorem four_inj {x y : Nat} (hx : x < 4294967296) (hy : y < 4294967296) (h : byteNs (four x) = byteNs (four y)) : x = y := by
  rw [four_nat, four_nat] at h
  simp only [List.cons.injEq, and_true] at h
  omega
theorem xor8 (a b : Nat) (ha : a < 256) (hb : b < 256) : Go.bits .xor .u8 (a : Int) (b : Int) = ((a ^^^ b : Nat) : Int) := by
  show IntKind.u8.wrap ((BitVec.ofInt 8 (a : Int) ^^^ BitVec.ofInt 8 (b : Int)).toNat : Int) = _
  rw [BitVec.toNat_xor, BitVec.ofInt_natCast, BitVec.ofInt_natCast, BitVec.toNat_ofNat, BitVec.toNat_ofNat, Nat.mod_eq_of_lt (show a < 2 ^ 8 from ha), Nat.mod_eq_of_lt (show b < 2 ^ 8 from hb), IntKind.wrap_u8]
  have h := Nat.xor_lt_two_pow (n := 8) (x := a) (y := b) ha hb
  generalize a ^^^ b = c at h ⊢
  omega
theorem bytesOf_nat (s : ByteArray) : bytesOf s = (byteNs s).map fun (b : Nat) => (b : Int) := by
  unfold bytesOf byteNs
  rw [List.map_map]
  rfl
/-- one byte turned is seen -/
theorem turned (s : ByteArray) (hs : s.size ≤ 20000) (i v : Nat) (hi : i < (byteNs (s ++ four (crcL 4294967295 (byteNs s)))).length) (hv : v < 256) (hne : v ≠ (byteNs (s ++ four (crcL 4294967295 (byteNs s))))[i]) :
    (unsealedOf (strOfNums (((byteNs (s ++ four (crcL 4294967295 (byteNs s)))).set i v).map fun (b : Nat) => (b : Int)))).2 = false := by
  have hc := crcL_lt (byteNs s) 4294967295 (by omega) (byteNs_lt s)
  generalize hX : crcL 4294967295 (byteNs s) = X at *
  have hap := byteNs_append s (four X)
  have hl4 : (byteNs (four X)).length = 4 := by rw [byteNs_length, four_size]
  have hls := byteNs_length s
  have hall : ∀ b ∈ (byteNs (s ++ four X)).set i v, b < 256 := by
    intro b hb
    rcases List.mem_or_eq_of_mem_set hb with h | h
    · exact byteNs_lt _ b h
    · omega
  obtain ⟨u, hu⟩ : ∃ u, u = strOfNums (((byteNs (s ++ four X)).set i v).map fun (b : Nat) => (b : Int)) := ⟨_, rfl⟩
  have hun : byteNs u = (byteNs (s ++ four X)).set i v := by rw [hu]; exact byteNs_str _ hall
  have husz : u.size = s.size + 4 := by rw [← byteNs_length, hun, List.length_set, hap, List.length_append]; omega
  rw [← hu]
  unfold unsealedOf
  rw [if_pos]
  refine Or.inr (Or.inr fun h => ?_)
  rw [toList_iff, byteNs_extract, byteNs_extract, hun, husz, hap] at h
  simp only [List.drop_zero, Nat.sub_zero, Nat.add_sub_cancel] at h
  have hne2 : (byteNs (s ++ four X))[i]? ≠ some v := by
    rw [List.getElem?_eq_getElem hi]
    intro e
    exact hne (Option.some.inj e).symm
  clear hne
  rw [hap] at hne2 hi
  by_cases c : i < s.size
  · have e1 : ((byteNs s ++ byteNs (four X)).set i v).take s.size = (byteNs s).set i v := by
      rw [List.set_append_left _ _ (by omega), List.take_left' (by rw [List.length_set]; exact hls)]
    have e2 : (((byteNs s ++ byteNs (four X)).set i v).drop s.size).take (s.size + 4 - s.size) = byteNs (four X) := by
      rw [List.set_append_left _ _ (by omega), List.drop_left' (by rw [List.length_set]; exact hls), List.take_of_length_le (by omega)]
    rw [e1, e2] at h
    have hl2 : ∀ b ∈ (byteNs s).set i v, b < 256 := by
      intro b hb
      rcases List.mem_or_eq_of_mem_set hb with h | h
      · exact byteNs_lt _ b h
      · omega
    have h2 := four_inj (crcL_lt _ 4294967295 (by omega) hl2) hc h
    refine crcL_set (byteNs s) 4294967295 i v (by omega) (by omega) (byteNs_lt s) hv ?_ (h2.trans hX.symm)
    intro e
    apply hne2
    rw [List.getElem?_append_left (by omega), List.getElem?_eq_getElem (by omega), e]
  · have e1 : ((byteNs s ++ byteNs (four X)).set i v).take s.size = byteNs s := by
      rw [List.set_append_right _ _ (by omega), List.take_left' hls]
    have e2 : (((byteNs s ++ byteNs (four X)).set i v).drop s.size).take (s.size + 4 - s.size) = (byteNs (four X)).set (i - s.size) v := by
      rw [List.set_append_right _ _ (by omega), List.drop_left' hls, List.take_of_length_le (by rw [List.length_set]; omega), hls]
    rw [e1, e2, hX] at h
    rw [List.length_append] at hi
    have h3 : (byteNs (four X))[i - s.size]? = ((byteNs (four X)).set (i - s.size) v)[i - s.size]? := by rw [← h]
    rw [List.getElem?_set_self (by omega)] at h3
    apply hne2
    rw [List.getElem?_append_right (by omega), hls]
    exact h3
theorem FnTurned : laws_FnTurned.Pure := by
  intro l _ _ _
  obtain ⟨K, hK⟩ : ∃ k : Nat, 11000000 ≤ k := ⟨11000000, Nat.le_refl _⟩
  refine ⟨K + 1, ?_⟩
  unfold laws_FnTurned.f
  rw [laws_big_eq]
  simp only [Option.bind_some]
  by_cases hb : (l.length : Int) > 1048576
  · rw [if_pos (decide_eq_true hb)]
  rw [if_neg (by simp [hb])]
  obtain ⟨s, es, hs⟩ := spec_DrawSumOf_some l (by omega) (K + 1) (by omega)
  obtain ⟨p, hp, hlen, hall⟩ := spec_DrawPlaces_some l (by omega) (K + 1) (by omega)
  have hsl := impl_Sealed_eq (K + 1) s (by omega)
  rw [if_neg (by omega)] at hsl
  rw [es, hp]
  simp only [Option.bind_some]
  rw [hsl]
  simp only [Option.bind_some]
  obtain ⟨t, ht⟩ : ∃ t, t = s ++ four (crcL 4294967295 (byteNs s)) := ⟨_, rfl⟩
  rw [← ht]
  have htn : byteNs t = byteNs s ++ byteNs (four (crcL 4294967295 (byteNs s))) := by rw [ht, byteNs_append]
  have hts : t.size = s.size + 4 := by rw [← byteNs_length, htn, List.length_append, byteNs_length, byteNs_length, four_size]
  have e0 : t.extract 0 s.size = s := byteNs_inj (by rw [byteNs_extract, htn, List.drop_zero, Nat.sub_zero, List.take_left' (byteNs_length s)])
  have e4 : t.extract s.size (s.size + 4) = four (crcL 4294967295 (byteNs s)) := byteNs_inj (by rw [byteNs_extract, htn, List.drop_left' (byteNs_length s), List.take_of_length_le (by rw [byteNs_length, four_size]; omega)])
  have hu : unsealedOf t = (s, true) := by
    unfold unsealedOf
    rw [hts, Nat.add_sub_cancel, e0, e4, if_neg]
    rintro (h | h | h)
    · omega
    · omega
    · exact h rfl
  rw [impl_Unsealed_eq (K + 1) t (by omega) (by omega), hu]
  simp only [Option.bind_some, if_true]
  have hw : ((t.size : Int) != wrap64 ((s.size : Int) + 4)) = false := by
    rw [show wrap64 ((s.size : Int) + 4) = (s.size : Int) + 4 by unfold wrap64; omega, hts]
    simp
  rw [hw, laws_FnTurned.j0, if_neg (by decide), if_pos (by omega)]
  simp only [Option.bind_some]
  have hly : (bytesOf t).length = s.size + 4 := by rw [bytesOf_length, hts]
  have h0 : 0 ≤ rd p 0 ∧ rd p 0 < 10000 := rd_range hall 0 (by omega)
  have h1 : 0 ≤ rd p 1 ∧ rd p 1 < 10000 := rd_range hall 1 (by omega)
  rw [hly, hlen, if_pos (by omega), if_neg (by omega), Int.tmod_eq_emod_of_nonneg h0.1, Int.tmod_eq_emod_of_nonneg h1.1]
  obtain ⟨i, hi⟩ : ∃ i : Nat, (i : Int) = rd p 0 % ((s.size + 4 : Nat) : Int) := ⟨(rd p 0 % ((s.size + 4 : Nat) : Int)).toNat, Int.toNat_of_nonneg (Int.emod_nonneg _ (by omega))⟩
  have hilt : (i : Int) < ((s.size + 4 : Nat) : Int) := by rw [hi]; exact Int.emod_lt_of_pos _ (by omega)
  rw [← hi]
  obtain ⟨c, hc⟩ : ∃ c : Nat, (c : Int) = wrap64 (1 + rd p 1 % 255) % 256 := ⟨(wrap64 (1 + rd p 1 % 255) % 256).toNat, Int.toNat_of_nonneg (Int.emod_nonneg _ (by omega))⟩
  have hc2 : 0 < c ∧ c < 256 := by
    have e : wrap64 (1 + rd p 1 % 255) = 1 + rd p 1 % 255 := by unfold wrap64; omega
    rw [e] at hc
    omega
  rw [← hc, if_pos (by omega), if_pos (by omega), if_pos (by omega)]
  have hlt : i < (byteNs t).length := by rw [byteNs_length, hts]; omega
  have hrd : rd (bytesOf t) (i : Int) = (((byteNs t)[i] : Nat) : Int) := by
    unfold rd
    rw [Int.toNat_natCast, bytesOf_nat, List.getD_eq_getElem?_getD, List.getElem?_map, List.getElem?_eq_getElem hlt]
    rfl
  have hbl := byteNs_lt t (byteNs t)[i] (List.getElem_mem hlt)
  rw [hrd, xor8 _ c hbl hc2.2, Int.toNat_natCast]
  have hset : (bytesOf t).set i (((byteNs t)[i] ^^^ c : Nat) : Int) = (((byteNs t).set i ((byteNs t)[i] ^^^ c)).map fun (b : Nat) => (b : Int)) := by
    rw [bytesOf_nat, List.map_set]
  rw [hset]
  have hvlt : (byteNs t)[i] ^^^ c < 256 := Nat.xor_lt_two_pow (n := 8) hbl hc2.2
  have hvne : (byteNs t)[i] ^^^ c ≠ (byteNs t)[i] := by
    intro h
    have h2 : (byteNs t)[i] ^^^ c = (byteNs t)[i] ^^^ 0 := by rw [Nat.xor_zero]; exact h
    have := xor_lc h2
    omega
  have hun := turned s (by omega) i ((byteNs t)[i] ^^^ c) (by rw [← ht]; exact hlt) hvlt (by simp only [← ht]; exact hvne)
  rw [← ht] at hun
  rw [impl_Unsealed_eq K _ (by rw [strOfNums_size, List.length_map, List.length_set, byteNs_length]; omega) hK]
  simp only [Option.bind_some]
  rw [if_neg (by rw [hun]; decide), impl_SumOf_eq K s (by omega) hK]
  simp only [Option.bind_some]
  have hxs : (⟨#[120]⟩ : ByteArray).size = 1 := rfl
  have hxb : byteNs (⟨#[120]⟩ : ByteArray) = [120] := rfl
  have hsx : (s ++ (⟨#[120]⟩ : ByteArray)).size = s.size + 1 := by rw [← byteNs_length, byteNs_append, List.length_append, byteNs_length, hxb]; rfl
  rw [impl_SumMore_eq K _ (crcL_lt (byteNs s) 4294967295 (by omega) (byteNs_lt s)) _ (by rw [hxs]; omega) hK]
  simp only [Option.bind_some]
  rw [if_pos (by omega), impl_SumOf_eq K _ (by omega) hK]
  simp only [Option.bind_some]
  rw [byteNs_append, hxb]
  have hfold : crcL (crcL 4294967295 (byteNs s)) [120] = crcL 4294967295 (byteNs s ++ [120]) := by
    unfold crcL
    rw [List.foldl_append]
  rw [hfold]
  simp

end Go.Proofs.Ytaniffkmdiibpaa.Pure
