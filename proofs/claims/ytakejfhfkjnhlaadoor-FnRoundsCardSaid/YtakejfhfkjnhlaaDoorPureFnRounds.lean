/- Proved: the law FnRounds answers true at every draw: twenty-four rounds are the permutation, a word turned back is the word, and program and reference agree. Conditions: none. -/
import Derived.Test.YtakejfhfkjnhlaaDoorQFnRoundsx3
import Derived.Test.YtakejfhfkjnhlaaDoorMod
import Derived.Test.YtakejfhfkjnhlaaDoorKecId
import Derived.Test.YtakejfhfkjnhlaaDoorWordTurn
import Derived.Test.YtakejfhfkjnhlaaDoorDrawK
set_option linter.unusedVariables false
set_option linter.unusedSimpArgs false
namespace Go.Proofs.YtakejfhfkjnhlaaDoor.Pure
open Go.RowKit Go.Proofs.YtakejfhfkjnhlaaDoor.PFnRounds Go.Proofs.YtakejfhfkjnhlaaDoorW.PrintWords Go.Proofs.YtakejfhfkjnhlaaDoorW.PrintLast Go.Proofs.YtakejfhfkjnhlaaDoorW.PrintMore
open Go.Proofs.YtakejfhfkjnhlaaDoor.M

theorem spec_l03Turn_eq (x k : Nat) (hx : x < 2 ^ 64) (hk : k < 64) : spec_l03Turn.f x k = some ((rotN x k : Nat) : Int) := by
  unfold spec_l03Turn.f
  rw [if_pos (by omega), if_pos (by rw [u64_mod]; omega), rot_int x k hx hk]
theorem spec_l03Word_l0 (s : ByteArray) (hs : s.size = 8) : ∀ (j k : Nat), j ≤ 8 → j < k → spec_l03Word.l0 k s 0 ((leV ((byteNs s).drop j) : Nat) : Int) ((j : Int) - 1) = some ((leV (byteNs s) : Nat) : Int) := by
  intro j
  induction j with
  | zero =>
    intro k _ hk
    obtain ⟨k, rfl⟩ : ∃ m, k = m + 1 := ⟨k - 1, by omega⟩
    simp only [spec_l03Word.l0]
    rw [if_neg (by omega), List.drop_zero]
  | succ j ih =>
    intro k hj hk
    obtain ⟨k, rfl⟩ : ∃ m, k = m + 1 := ⟨k - 1, by omega⟩
    simp only [spec_l03Word.l0]
    have e : wrap64 (0 + (((j + 1 : Nat) : Int) - 1)) = (j : Int) := by unfold wrap64; omega
    have e2 : wrap64 ((((j + 1 : Nat) : Int) - 1) - 1) = (j : Int) - 1 := by unfold wrap64; omega
    rw [if_pos (by omega), e, e2, if_pos (by omega), if_pos (by omega)]
    have hb := bt_nat s (j : Int)
    have hv := byteNs_drop s j (by omega)
    have ho := or_byte (leV ((byteNs s).drop (j + 1))) (bt s (j : Int)).toNat (leV_drop s hs j (by omega)) hb.2
    rw [hb.1] at ho
    rw [ho]
    have e3 : leV ((byteNs s).drop (j + 1)) * 256 + (bt s (j : Int)).toNat = leV ((byteNs s).drop j) := by
      rw [hv, leV]
      omega
    rw [e3]
    exact ih k (by omega) (by omega)
theorem spec_l03Word_eq (k : Nat) (hk : 9 ≤ k) (s : ByteArray) (hs : s.size = 8) : spec_l03Word.f k s 0 = some ((leV (byteNs s) : Nat) : Int) := by
  have h := spec_l03Word_l0 s hs 8 k (by omega) (by omega)
  rw [List.drop_eq_nil_of_le (by rw [byteNs_length]; omega)] at h
  exact h
theorem impl_wordAt_l0 (s : ByteArray) (hs : s.size = 8) : ∀ (j k : Nat), j ≤ 8 → j < k → impl_wordAt.l0 k s 0 ((leV ((byteNs s).drop j) : Nat) : Int) ((j : Int) - 1) = some ((leV (byteNs s) : Nat) : Int) := by
  intro j
  induction j with
  | zero =>
    intro k _ hk
    obtain ⟨k, rfl⟩ : ∃ m, k = m + 1 := ⟨k - 1, by omega⟩
    simp only [impl_wordAt.l0]
    rw [if_neg (by omega), List.drop_zero]
  | succ j ih =>
    intro k hj hk
    obtain ⟨k, rfl⟩ : ∃ m, k = m + 1 := ⟨k - 1, by omega⟩
    simp only [impl_wordAt.l0]
    have e : wrap64 (0 + (((j + 1 : Nat) : Int) - 1)) = (j : Int) := by unfold wrap64; omega
    have e2 : wrap64 ((((j + 1 : Nat) : Int) - 1) - 1) = (j : Int) - 1 := by unfold wrap64; omega
    rw [if_pos (by omega), e, e2, if_pos (by omega), if_pos (by omega)]
    have hb := bt_nat s (j : Int)
    have hv := byteNs_drop s j (by omega)
    have ho := or_byte (leV ((byteNs s).drop (j + 1))) (bt s (j : Int)).toNat (leV_drop s hs j (by omega)) hb.2
    rw [hb.1] at ho
    rw [ho]
    have e3 : leV ((byteNs s).drop (j + 1)) * 256 + (bt s (j : Int)).toNat = leV ((byteNs s).drop j) := by
      rw [hv, leV]
      omega
    rw [e3]
    exact ih k (by omega) (by omega)
theorem impl_wordAt_eq (k : Nat) (hk : 9 ≤ k) (s : ByteArray) (hs : s.size = 8) : impl_wordAt.f k s 0 = some ((leV (byteNs s) : Nat) : Int) := by
  have h := impl_wordAt_l0 s hs 8 k (by omega) (by omega)
  rw [List.drop_eq_nil_of_le (by rw [byteNs_length]; omega)] at h
  exact h
theorem bits_RotateLeft64_eq (x k : Nat) (hx : x < 2 ^ 64) (hk : k < 64) : bits_RotateLeft64.f x k = some ((rotN x k : Nat) : Int) := by
  unfold bits_RotateLeft64.f
  rw [u64_id (k : Int) (by omega) (by omega), and_63 k (by omega), Nat.mod_eq_of_lt hk]
  rw [if_pos (by omega), if_pos (by rw [u64_mod]; omega), rot_int x k hx hk]
theorem impl_wordBytes_l0 : ∀ (d k x : Nat) (l : List Int), d ≤ 8 → d < k → l.length + d ≤ 1000 → impl_wordBytes.l0 k l x ((8 - d : Nat) : Int) = some (l ++ (leB d x).map fun (b : Nat) => (b : Int)) := by
  intro d
  induction d with
  | zero =>
    intro k x l _ hk _
    obtain ⟨k, rfl⟩ : ∃ m, k = m + 1 := ⟨k - 1, by omega⟩
    simp only [impl_wordBytes.l0]
    rw [if_neg (by omega)]
    simp [leB]
  | succ d ih =>
    intro k x l hd hk hl
    obtain ⟨k, rfl⟩ : ∃ m, k = m + 1 := ⟨k - 1, by omega⟩
    simp only [impl_wordBytes.l0]
    rw [if_pos (by omega), if_pos (by omega), wrap_nat' _ (by omega), show 8 - (d + 1) + 1 = 8 - d by omega, show (x : Int) / 256 = ((x / 256 : Nat) : Int) by omega]
    rw [ih k (x / 256) _ (by omega) (by omega) (by simp; omega)]
    simp [leB]
theorem impl_wordBytes_eq (k : Nat) (hk : 9 ≤ k) (x : Nat) : impl_wordBytes.f k [] x = some ((leB 8 x).map fun (b : Nat) => (b : Int)) := by
  have h := impl_wordBytes_l0 8 k x [] (by omega) (by omega) (by simp)
  rw [List.nil_append] at h
  exact h
theorem laws_big_eq (l : List Int) : laws_big.f l = some (decide ((l.length : Int) > 1048576)) := rfl
theorem spec_l01New_l0 (l : List Int) (hl : l.length ≤ 1048576) : ∀ (d k i : Nat) (h : Int), d + 1 ≤ k → i + d = 4000 → ∃ h', spec_l01New.l0 k l h i = some (l, 0, h') := by
  intro d
  induction d with
  | zero =>
    intro k i h hk hi
    obtain ⟨k, rfl⟩ : ∃ j, k = j + 1 := ⟨k - 1, by omega⟩
    refine ⟨h, ?_⟩
    simp only [spec_l01New.l0]
    by_cases hlt : (i : Int) < l.length
    · rw [if_pos hlt, if_neg (by omega)]
    · rw [if_neg hlt]
  | succ d ih =>
    intro k i h hk hi
    obtain ⟨k, rfl⟩ : ∃ j, k = j + 1 := ⟨k - 1, by omega⟩
    simp only [spec_l01New.l0]
    by_cases hlt : (i : Int) < l.length
    · rw [if_pos hlt, if_pos (by omega), if_pos (by omega), wrap_nat i (by omega)]
      exact ih k (i + 1) _ (by omega) (by omega)
    · rw [if_neg hlt]
      exact ⟨h, rfl⟩
theorem spec_l01New_some (l : List Int) (hl : l.length ≤ 1048576) (k : Nat) (hk : 5000 ≤ k) : ∃ h, spec_l01New.f k l = some (l, 0, h) :=
  spec_l01New_l0 l hl 4000 k 0 _ (by omega) (by omega)
theorem spec_l01Byte_some (l : List Int) (hl : l.length ≤ 1048576) (i h : Int) (h0 : 0 ≤ i) (h1 : i ≤ l.length) : ∃ x i' h', spec_l01Byte.f l i h = some (x, i', h') ∧ (0 ≤ x ∧ x ≤ 255) ∧ 0 ≤ i' ∧ i' ≤ l.length := by
  unfold spec_l01Byte.f
  by_cases hlt : i < (l.length : Int)
  · rw [if_pos hlt, if_pos h0]
    refine ⟨_, _, _, rfl, and255 _, ?_⟩
    unfold wrap64
    omega
  · rw [if_neg hlt]
    exact ⟨_, _, _, rfl, and255 _, h0, h1⟩
theorem spec_l01Text_l0 (l : List Int) (hl : l.length ≤ 1048576) (n : Int) (hn : n ≤ 5000) : ∀ (d k m : Nat) (out : List Int) (j h : Int), d + 1 ≤ k → (m : Int) + d = max n m → out.length = m → 0 ≤ j → j ≤ l.length →
    ∃ r j' h', spec_l01Text.l0 k n out m l j h = some (r, j', h') ∧ (r.size : Int) = max n m ∧ 0 ≤ j' ∧ j' ≤ l.length := by
  intro d
  induction d with
  | zero =>
    intro k m out j h hk hm ho h0 h1
    obtain ⟨k, rfl⟩ : ∃ q, k = q + 1 := ⟨k - 1, by omega⟩
    simp only [spec_l01Text.l0]
    rw [if_neg (by omega)]
    exact ⟨_, _, _, rfl, by rw [strOfNums_size, ho]; omega, h0, h1⟩
  | succ d ih =>
    intro k m out j h hk hm ho h0 h1
    obtain ⟨k, rfl⟩ : ∃ q, k = q + 1 := ⟨k - 1, by omega⟩
    simp only [spec_l01Text.l0]
    obtain ⟨x, j1, g1, e1, hx, a1, b1⟩ := spec_l01Byte_some l hl j h h0 h1
    rw [if_pos (by omega), e1]
    simp only [Option.bind_some]
    rw [if_pos (by omega), wrap_nat' m (by omega)]
    obtain ⟨r, j', h', e2, hs, a2, b2⟩ := ih k (m + 1) (out ++ [x % 256]) j1 g1 (by omega) (by omega) (by simp [ho]) a1 b1
    exact ⟨r, j', h', e2, by omega, a2, b2⟩
theorem spec_l01Text_some (l : List Int) (hl : l.length ≤ 1048576) (j h n : Int) (h0 : 0 ≤ j) (h1 : j ≤ l.length) (k : Nat) (hk : 5003 ≤ k) : ∃ r j' h', spec_l01Text.f k l j h n = some (r, j', h') ∧ (r.size : Int) ≤ 5000 ∧ ((r.size : Int) ≤ n ∨ r.size = 0) ∧ 0 ≤ j' ∧ j' ≤ l.length := by
  obtain ⟨k, rfl⟩ : ∃ q, k = q + 1 := ⟨k - 1, by omega⟩
  have main : ∀ q : Int, q ≤ 5000 → ∃ r j' h', spec_l01Text.j0 (k + 1) q l j h = some (r, j', h') ∧ (r.size : Int) = max q 0 ∧ 0 ≤ j' ∧ j' ≤ l.length := by
    intro q hq
    obtain ⟨r, j', h', e, hs, a, b⟩ := spec_l01Text_l0 l hl q hq (max q 0).toNat k 0 [] j h (by omega) (by omega) rfl h0 h1
    refine ⟨r, j', h', ?_, hs, a, b⟩
    rw [spec_l01Text.j0]
    exact e
  unfold spec_l01Text.f
  by_cases hn : n > 5000
  · rw [if_pos hn]
    obtain ⟨r, j', h', e, hs, a, b⟩ := main 5000 (by omega)
    exact ⟨r, j', h', e, by omega, by omega, a, b⟩
  · rw [if_neg hn]
    obtain ⟨r, j', h', e, hs, a, b⟩ := main n (by omega)
    exact ⟨r, j', h', e, by omega, by omega, a, b⟩
theorem spec_l01Long_l0 (n : Int) (v : Int) (hn : n ≤ 1048576) : ∀ (d k : Nat) (i : Nat) (out : List Int), d + 1 ≤ k → (i : Int) + d = max n i → (out.length : Int) = max n 0 → ∃ r, spec_l01Long.l0 k n v out i = some r ∧ (r.size : Int) = max n 0 := by
  intro d
  induction d with
  | zero =>
    intro k i out hk hi ho
    obtain ⟨k, rfl⟩ : ∃ q, k = q + 1 := ⟨k - 1, by omega⟩
    simp only [spec_l01Long.l0]
    rw [if_neg (by omega)]
    exact ⟨_, rfl, by rw [strOfNums_size, ho]⟩
  | succ d ih =>
    intro k i out hk hi ho
    obtain ⟨k, rfl⟩ : ∃ q, k = q + 1 := ⟨k - 1, by omega⟩
    simp only [spec_l01Long.l0]
    rw [if_pos (by omega), if_pos (by omega), if_pos (by omega), wrap_nat i (by omega)]
    exact ih k (i + 1) _ (by omega) (by omega) (by rw [List.length_set]; exact ho)
theorem spec_l01Long_some (n v : Int) (h0 : 0 ≤ n) (hn : n ≤ 1048576) (k : Nat) (hk : n.toNat + 1 ≤ k) : ∃ r, spec_l01Long.f k n v = some r ∧ (r.size : Int) = n := by
  unfold spec_l01Long.f
  rw [if_pos h0, if_pos (by omega)]
  obtain ⟨r, e, hs⟩ := spec_l01Long_l0 n v hn n.toNat k 0 (List.replicate n.toNat 0) (by omega) (by omega) (by rw [List.length_replicate]; omega)
  exact ⟨r, e, by omega⟩
theorem spec_l01Below_some (l : List Int) (hl : l.length ≤ 1048576) (i h n : Int) (h0 : 0 ≤ i) (h1 : i ≤ l.length) : ∃ x i' h', spec_l01Below.f l i h n = some (x, i', h') ∧ (0 ≤ x ∧ (n ≤ 0 → x = 0) ∧ (0 < n → x < n)) ∧ 0 ≤ i' ∧ i' ≤ l.length := by
  unfold spec_l01Below.f
  by_cases hn : n ≤ 0
  · rw [if_pos hn]
    exact ⟨_, _, _, rfl, ⟨by omega, fun _ => rfl, fun q => by omega⟩, h0, h1⟩
  · rw [if_neg hn]
    obtain ⟨x, i1, g1, e1, hx, a1, b1⟩ := spec_l01Byte_some l hl i h h0 h1
    by_cases hs : n ≤ 256
    · rw [if_pos hs, e1]
      simp only [Option.bind_some]
      rw [if_neg (by omega)]
      refine ⟨_, _, _, rfl, ?_, a1, b1⟩
      rw [Int.tmod_eq_emod_of_nonneg hx.1]
      exact ⟨Int.emod_nonneg _ (by omega), fun q => by omega, fun q => Int.emod_lt_of_pos _ q⟩
    · obtain ⟨y, i2, g2, e2, hy, a2, b2⟩ := spec_l01Byte_some l hl i1 g1 a1 b1
      obtain ⟨z, i3, g3, e3, hz, a3, b3⟩ := spec_l01Byte_some l hl i2 g2 a2 b2
      obtain ⟨t, i4, g4, e4, ht, a4, b4⟩ := spec_l01Byte_some l hl i3 g3 a3 b3
      rw [if_neg hs, e1]
      simp only [Option.bind_some, e2, e3, e4]
      rw [if_neg (by omega)]
      refine ⟨_, _, _, rfl, ?_, a4, b4⟩
      have hw : 0 ≤ wrap64 (wrap64 (wrap64 (wrap64 (x * 16777216) + wrap64 (y * 65536)) + wrap64 (z * 256)) + t) := by
        unfold wrap64
        omega
      rw [Int.tmod_eq_emod_of_nonneg hw]
      exact ⟨Int.emod_nonneg _ (by omega), fun q => by omega, fun q => Int.emod_lt_of_pos _ q⟩
theorem spec_l03State_some (l : List Int) (hl : l.length ≤ 1048576) (j h : Int) (h0 : 0 ≤ j) (h1 : j ≤ l.length) (k : Nat) (hk : 5003 ≤ k) : ∃ r j' h', spec_l03State.f k l j h = some (r, j', h') ∧ r.size = 200 ∧ 0 ≤ j' ∧ j' ≤ l.length := by
  unfold spec_l03State.f
  obtain ⟨r, j1, g1, e1, _, hs, a1, b1⟩ := spec_l01Text_some l hl j h 40 h0 h1 k hk
  obtain ⟨x, j2, g2, e2, hx, a2, b2⟩ := spec_l01Below_some l hl j1 g1 250 a1 b1
  have ew : wrap64 (200 - (r.size : Int)) = 200 - (r.size : Int) := by
    unfold wrap64
    omega
  obtain ⟨t, e3, ht⟩ := spec_l01Long_some (200 - (r.size : Int)) (x % 256) (by omega) (by omega) k (by omega)
  rw [e1, Option.bind_some]
  simp only [e2, Option.bind_some, ew, e3]
  rw [if_pos (by omega)]
  exact ⟨_, _, _, rfl, by rw [ByteArray.size_append]; omega, a2, b2⟩
theorem spec_l01Once_some (l : List Int) (hl : l.length ≤ 1048576) (i h n : Int) (h0 : 0 ≤ i) (h1 : i ≤ l.length) : ∃ x i' h', spec_l01Once.f l i h n = some (x, i', h') ∧ 0 ≤ i' ∧ i' ≤ l.length := by
  unfold spec_l01Once.f
  obtain ⟨x, j1, g1, e1, hx, a1, b1⟩ := spec_l01Below_some l hl i h n h0 h1
  rw [e1, Option.bind_some]
  exact ⟨_, _, _, rfl, a1, b1⟩
theorem spec_DrawKeccakF_some (l : List Int) (hl : l.length ≤ 1048576) (k : Nat) (hk : 5003 ≤ k) : ∃ r, spec_DrawKeccakF.f k l = some r := by
  unfold spec_DrawKeccakF.f
  obtain ⟨h, e0⟩ := spec_l01New_some l hl k (by omega)
  obtain ⟨r, j1, g1, e1, hs, a1, b1⟩ := spec_l03State_some l hl 0 h (by omega) (by omega) k hk
  obtain ⟨b, j2, g2, e2, a2, b2⟩ := spec_l01Once_some l hl j1 g1 12 a1 b1
  rw [e0, Option.bind_some]
  simp only [e1, Option.bind_some, e2]
  by_cases hb : b = true
  · rw [if_pos hb, if_pos (by omega)]
    exact ⟨_, rfl⟩
  · rw [if_neg hb]
    exact ⟨_, rfl⟩
theorem spec_l01PickInt_some (l : List Int) (hl : l.length ≤ 1048576) (i h : Int) (q : List Int) (hq : 0 < q.length) (h0 : 0 ≤ i) (h1 : i ≤ l.length) (hall : ∀ x ∈ q, IsInt x) : ∃ x i' h', spec_l01PickInt.f l i h q = some (x, i', h') ∧ IsInt x ∧ 0 ≤ i' ∧ i' ≤ l.length := by
  unfold spec_l01PickInt.f
  obtain ⟨x, j1, g1, e1, hx, a1, b1⟩ := spec_l01Below_some l hl i h q.length h0 h1
  rw [e1]
  have := hx.2.2 (by omega)
  simp only [Option.bind_some]
  rw [if_pos hx.1, if_pos this]
  refine ⟨_, _, _, rfl, hall _ ?_, a1, b1⟩
  unfold rd
  rw [List.getD_eq_getElem?_getD, List.getElem?_eq_getElem (by omega)]
  exact List.getElem_mem _
theorem spec_DrawRotated_some (l : List Int) (hl : l.length ≤ 1048576) (k : Nat) (hk : 5003 ≤ k) : ∃ r n, spec_DrawRotated.f k l = some (r, n) ∧ IsInt n := by
  unfold spec_DrawRotated.f
  obtain ⟨h, e0⟩ := spec_l01New_some l hl k (by omega)
  obtain ⟨n, j0, g0, e3, hn, a0, b0⟩ := spec_l01PickInt_some l hl 0 h ([0, 1, 7, 63, 64, 65, (-1), 9223372036854775807] : List Int) (by simp) (by omega) (by omega) (by
      intro q hq
      simp only [List.mem_cons, List.not_mem_nil, or_false] at hq
      rcases hq with rfl | rfl | rfl | rfl | rfl | rfl | rfl | rfl
      all_goals exact lit_isInt _ (by omega) (by omega))
  obtain ⟨m, j1, g1, e1, hm, a1, b1⟩ := spec_l01PickInt_some l hl j0 g0 ([8, 8, 8, 7, 9] : List Int) (by simp) a0 b0 (by
      intro q hq
      simp only [List.mem_cons, List.not_mem_nil, or_false] at hq
      rcases hq with rfl | rfl | rfl | rfl | rfl
      all_goals exact lit_isInt _ (by omega) (by omega))
  obtain ⟨r, j2, g2, e2, hs, _, a2, b2⟩ := spec_l01Text_some l hl j1 g1 m a1 b1 k hk
  rw [e0, Option.bind_some]
  simp only [e1, Option.bind_some, e2, e3]
  exact ⟨_, _, rfl, hn⟩
theorem spec_l01Place_some (l : List Int) (hl : l.length ≤ 1048576) (i h n : Int) (h0 : 0 ≤ i) (h1 : i ≤ l.length) (hn0 : 0 ≤ n) (hn : n ≤ 1048576) : ∃ x i' h', spec_l01Place.f l i h n = some (x, i', h') ∧ IsInt x ∧ 0 ≤ i' ∧ i' ≤ l.length := by
  unfold spec_l01Place.f
  obtain ⟨b, j1, g1, e1, a1, b1⟩ := spec_l01Once_some l hl i h 15 h0 h1
  rw [e1, Option.bind_some]
  by_cases hb : b = true
  · obtain ⟨x, j2, g2, e2, hx, a2, b2⟩ := spec_l01PickInt_some l hl j1 g1 ([(-1), n, wrap64 (n + 1), 9223372036854775807, (-9223372036854775808)] : List Int) (by simp) a1 b1 (by
      intro q hq
      simp only [List.mem_cons, List.not_mem_nil, or_false] at hq
      rcases hq with rfl | rfl | rfl | rfl | rfl
      all_goals first | exact wrap_isInt _ | exact lit_isInt _ (by omega) (by omega))
    simp only [if_pos hb, e2, Option.bind_some]
    exact ⟨_, _, _, rfl, hx, a2, b2⟩
  · obtain ⟨x, j2, g2, e2, hx, a2, b2⟩ := spec_l01Below_some l hl j1 g1 n a1 b1
    simp only [if_neg hb, e2, Option.bind_some]
    refine ⟨_, _, _, rfl, ⟨by omega, ?_⟩, a2, b2⟩
    by_cases hz : n ≤ 0
    · have := hx.2.1 hz; omega
    · have := hx.2.2 (by omega); omega
theorem spec_DrawKeccakRound_some (l : List Int) (hl : l.length ≤ 1048576) (k : Nat) (hk : 5003 ≤ k) : ∃ r n, spec_DrawKeccakRound.f k l = some (r, n) := by
  unfold spec_DrawKeccakRound.f
  obtain ⟨h, e0⟩ := spec_l01New_some l hl k (by omega)
  obtain ⟨n, j0, g0, e3, hn, a0, b0⟩ := spec_l01Place_some l hl 0 h 23 (by omega) (by omega) (by omega) (by omega)
  obtain ⟨r, j1, g1, e1, hs, a1, b1⟩ := spec_l03State_some l hl j0 g0 a0 b0 k hk
  obtain ⟨b, j2, g2, e2, a2, b2⟩ := spec_l01Once_some l hl j1 g1 12 a1 b1
  rw [e0, Option.bind_some]
  simp only [e1, Option.bind_some, e2, e3]
  by_cases hb : b = true
  · rw [if_pos hb, if_pos (by omega)]
    exact ⟨_, _, rfl⟩
  · rw [if_neg hb]
    exact ⟨_, _, rfl⟩
theorem spec_l03Bytes_l0 (x : Nat) : ∀ (d k : Nat) (l : List Int), d ≤ 8 → d < k → l.length = 8 - d → spec_l03Bytes.l0 k x (l ++ List.replicate d 0) ((8 - d : Nat) : Int) = some (strOfNums (l ++ (leB d (x / 256 ^ (8 - d))).map fun (b : Nat) => (b : Int))) := by
  intro d
  induction d with
  | zero =>
    intro k l _ hk _
    obtain ⟨k, rfl⟩ : ∃ m, k = m + 1 := ⟨k - 1, by omega⟩
    simp only [spec_l03Bytes.l0]
    rw [if_neg (by omega)]
    simp [leB]
  | succ d ih =>
    intro k l hd hk hl
    obtain ⟨k, rfl⟩ : ∃ m, k = m + 1 := ⟨k - 1, by omega⟩
    simp only [spec_l03Bytes.l0]
    have hw : 0 ≤ IntKind.u64.wrap (8 * IntKind.u64.wrap ((8 - (d + 1) : Nat) : Int)) := by
      rw [u64_mod]
      omega
    have hlen : (l ++ List.replicate (d + 1) (0 : Int)).length = 8 := by
      rw [List.length_append, List.length_replicate]
      omega
    rw [if_pos (by omega), if_pos hw, if_pos (by omega), if_pos (by rw [hlen]; omega), wrap_nat' _ (by omega), show 8 - (d + 1) + 1 = 8 - d by omega, shr_byte x _ (by omega)]
    have e : (l ++ List.replicate (d + 1) (0 : Int)).set ((8 - (d + 1) : Nat) : Int).toNat (((x / 256 ^ (8 - (d + 1)) : Nat) : Int) % 256) = (l ++ [((x / 256 ^ (8 - (d + 1)) % 256 : Nat) : Int)]) ++ List.replicate d 0 := by
      rw [Int.toNat_natCast, List.set_append_right _ _ (by omega), ← hl, Nat.sub_self, List.replicate_succ, List.set_cons_zero, List.append_assoc]
      rfl
    rw [e, ih k _ (by omega) (by omega) (by simp; omega)]
    have e2 : x / 256 ^ (8 - (d + 1)) / 256 = x / 256 ^ (8 - d) := by
      rw [Nat.div_div_eq_div_mul, ← Nat.pow_succ, show (8 - (d + 1)).succ = 8 - d by omega]
    rw [show leB (d + 1) (x / 256 ^ (8 - (d + 1))) = x / 256 ^ (8 - (d + 1)) % 256 :: leB d (x / 256 ^ (8 - (d + 1)) / 256) from rfl, e2]
    simp
theorem spec_l03Bytes_eq (k : Nat) (hk : 9 ≤ k) (x : Nat) : spec_l03Bytes.f k x = some (strOfNums ((leB 8 x).map fun (b : Nat) => (b : Int))) := by
  unfold spec_l03Bytes.f
  rw [if_pos (by decide)]
  have h := spec_l03Bytes_l0 x 8 k [] (by omega) (by omega) (by simp)
  simpa using h
def rotatedOf (s : ByteArray) (n : Int) : ByteArray :=
  if s.size = 8 ∧ 0 ≤ n then strOfNums ((leB 8 (rotN (leV (byteNs s)) (n.toNat % 64))).map fun (b : Nat) => (b : Int)) else s
theorem spec_Rotated_eq (k : Nat) (hk : 10 ≤ k) (s : ByteArray) (n : Int) (hn : n ≤ 9223372036854775807) : spec_Rotated.f k s n = some (rotatedOf s n) := by
  obtain ⟨k, rfl⟩ : ∃ m, k = m + 1 := ⟨k - 1, by omega⟩
  unfold spec_Rotated.f rotatedOf
  by_cases hs : s.size = 8
  · rw [if_pos (by omega)]
    simp only [spec_Rotated.j0]
    by_cases h : n < 0
    · rw [if_pos (by simp [h]), if_neg (by omega)]
    · obtain ⟨m, rfl⟩ : ∃ m : Nat, n = (m : Int) := ⟨n.toNat, by omega⟩
      rw [if_neg (c := decide ((m : Int) < 0) = true) (by simp only [decide_eq_true_eq]; omega), if_pos (c := s.size = 8 ∧ (0 : Int) ≤ (m : Int)) ⟨hs, by omega⟩, Int.toNat_natCast]
      have e : IntKind.u64.wrap (Int.tmod (m : Int) 64) = ((m % 64 : Nat) : Int) := by
        rw [Int.tmod_eq_emod_of_nonneg (by omega), u64_id _ (by omega) (by omega)]
        omega
      rw [e, spec_l03Word_eq k (by omega) s hs, Option.bind_some, spec_l03Turn_eq _ _ (leV_word s hs) (by omega), Option.bind_some, spec_l03Bytes_eq k (by omega), Option.bind_some]
      by_cases h0 : m % 64 = 0
      · rw [if_pos (by omega), h0, rotN_zero _ (leV_word s hs), str_word s hs]
      · rw [if_neg (by omega)]
  · rw [if_neg (by omega), if_neg (by omega)]
    simp [spec_Rotated.j0]
theorem impl_Rotated_eq (k : Nat) (hk : 10 ≤ k) (s : ByteArray) (n : Int) (hn : n ≤ 9223372036854775807) : impl_Rotated.f k s n = some (rotatedOf s n) := by
  obtain ⟨k, rfl⟩ : ∃ m, k = m + 1 := ⟨k - 1, by omega⟩
  unfold impl_Rotated.f rotatedOf
  by_cases hs : s.size = 8
  · rw [if_pos (by omega)]
    simp only [impl_Rotated.j0]
    by_cases h : n < 0
    · rw [if_pos (by simp [h]), if_neg (by omega)]
    · obtain ⟨m, rfl⟩ : ∃ m : Nat, n = (m : Int) := ⟨n.toNat, by omega⟩
      rw [if_neg (c := decide ((m : Int) < 0) = true) (by simp only [decide_eq_true_eq]; omega), if_pos (c := s.size = 8 ∧ (0 : Int) ≤ (m : Int)) ⟨hs, by omega⟩, Int.toNat_natCast]
      have e : Int.tmod (m : Int) 64 = ((m % 64 : Nat) : Int) := by
        rw [Int.tmod_eq_emod_of_nonneg (by omega)]
        omega
      rw [e, impl_wordAt_eq k (by omega) s hs, Option.bind_some, bits_RotateLeft64_eq _ _ (leV_word s hs) (by omega), Option.bind_some, impl_wordBytes_eq k (by omega), Option.bind_some]
  · rw [if_neg (by omega), if_neg (by omega)]
    simp [impl_Rotated.j0]
open Go.Proofs.YtakejfhfkjnhlaaDoor.KW
theorem rotated_back (s : ByteArray) (n : Int) (h0 : 0 ≤ n) (hn : n ≤ 9223372036854775807) : rotatedOf (rotatedOf s n) (wrap64 (64 - (Int.tmod n 64))) = s := by
  obtain ⟨m, rfl⟩ : ∃ m : Nat, n = (m : Int) := ⟨n.toNat, by omega⟩
  have ew : wrap64 (64 - (Int.tmod (m : Int) 64)) = ((64 - m % 64 : Nat) : Int) := by
    rw [Int.tmod_eq_emod_of_nonneg (by omega)]
    unfold wrap64
    omega
  rw [ew]
  by_cases hs : s.size = 8
  · have hX := leV_word s hs
    have hr := rotN_lt (leV (byteNs s)) (m % 64) hX (by omega)
    have h1 : rotatedOf s (m : Int) = strOfNums ((leB 8 (rotN (leV (byteNs s)) (m % 64))).map fun (b : Nat) => (b : Int)) := by
      unfold rotatedOf
      rw [if_pos ⟨hs, by omega⟩, Int.toNat_natCast]
    rw [h1]
    have hsz : (strOfNums ((leB 8 (rotN (leV (byteNs s)) (m % 64))).map fun (b : Nat) => (b : Int))).size = 8 := by
      rw [strOfNums_size, List.length_map, leB_length]
    unfold rotatedOf
    rw [if_pos ⟨hsz, by omega⟩, Int.toNat_natCast, byteNs_str _ (leB_lt 8 _), leV_leB 8 _ (by omega)]
    have hb : rotN (rotN (leV (byteNs s)) (m % 64)) ((64 - m % 64) % 64) = leV (byteNs s) := by
      by_cases hz : m % 64 = 0
      · rw [hz, rotN_zero _ hX]
        exact rotN_zero _ hX
      · rw [Nat.mod_eq_of_lt (show 64 - m % 64 < 64 by omega)]
        exact rotN_back _ _ hX (by omega)
    rw [hb, str_word s hs]
  · have h1 : ∀ q, rotatedOf s q = s := fun q => by
      unfold rotatedOf
      rw [if_neg (fun h => hs h.1)]
    rw [h1, h1]
theorem rotated_neg (s : ByteArray) (n : Int) (h : ¬ n ≥ 0) : rotatedOf s n = s := by
  unfold rotatedOf
  rw [if_neg (fun q => h q.2)]
/-- the text after n rounds -/
def itR (t : ByteArray) : Nat → ByteArray
  | 0 => t
  | n + 1 => krF (itR t n) (n : Int)
theorem krF_at (s : ByteArray) (hs : s.size = 200) (n : Nat) (hn : n ≤ 23) : krF s (n : Int) = strOfNums (textL (rndL (loadL s) (rd rcL (n : Int)))) := by
  unfold krF
  rw [if_pos ⟨hs, by omega, by omega⟩]
theorem itR_inv (t : ByteArray) (ht : t.size = 200) : ∀ n, n ≤ 24 → (itR t n).size = 200 ∧ loadL (itR t n) = allL (loadL t) n
  | 0, _ => ⟨ht, rfl⟩
  | n + 1, h => by
    obtain ⟨h1, h2⟩ := itR_inv t ht n (by omega)
    have hlen : (rndL (allL (loadL t) n) (rd rcL (n : Int))).length = 25 := by rw [rndL_length, allL_length, loadL_length]
    rw [itR, krF_at _ h1 n (by omega), h2]
    refine ⟨by rw [text_size, hlen], ?_⟩
    rw [load_text _ hlen (AllW_rnd (AllW_all (AllW_load t) n) _), allL]
theorem itR_all (t : ByteArray) : itR t 24 = kfF t := by
  by_cases ht : t.size = 200
  · obtain ⟨h1, h2⟩ := itR_inv t ht 23 (by omega)
    rw [itR, krF_at _ h1 23 (by omega), h2]
    unfold kfF
    rw [if_pos ht]
    rfl
  · have h : ∀ n, itR t n = t := by
      intro n
      induction n with
      | zero => rfl
      | succ n ih =>
        rw [itR, ih]
        unfold krF
        rw [if_neg (fun q => ht q.1)]
    rw [h]
    unfold kfF
    rw [if_neg ht]
theorem kfF_size (t : ByteArray) : (kfF t).size = t.size := by
  by_cases ht : t.size = 200
  · rw [← itR_all, (itR_inv t ht 24 (by omega)).1, ht]
  · unfold kfF
    rw [if_neg ht]
theorem j1_true (k : Nat) (hk : 11 ≤ k) (t w : ByteArray) (n : Int) (hn : IsInt n) (a : ByteArray) (s : ByteArray) (m : Int) (ha : a = rotatedOf w n) : laws_FnRounds.j1 k t (kfF t) w n a s m w = some true := by
  obtain ⟨k, rfl⟩ : ∃ q, k = q + 1 := ⟨k - 1, by omega⟩
  subst ha
  simp only [laws_FnRounds.j1, impl_KeccakF.f, spec_KeccakF.f, impl_KeccakRound.f, spec_KeccakRound.f, Option.bind_some, spec_Rotated_eq k (by omega) w n hn.2, if_true, kfF_size]
  by_cases ht : (t.size : Int) = 200
  · rw [if_pos ht]
    have hne : (kfF t).toList ≠ ([] : List UInt8) := by
      intro h
      have h2 := kfF_size t
      rw [toList_eq] at h
      have h3 : (kfF t).data.toList.length = 0 := by rw [h]; rfl
      rw [Array.length_toList] at h3
      have h4 : (kfF t).size = 0 := h3
      omega
    simp [hne]
  · rw [if_neg ht]
theorem l0_true (l : List Int) (hl : l.length ≤ 1048576) (t : ByteArray) : ∀ (d k i : Nat), d + 6000 ≤ k → i + d = 24 → laws_FnRounds.l0 k l t (itR t i) (i : Int) = some true := by
  intro d
  induction d with
  | zero =>
    intro k i hk hi
    obtain ⟨k, rfl⟩ : ∃ q, k = q + 1 := ⟨k - 1, by omega⟩
    obtain rfl : i = 24 := by omega
    obtain ⟨w, n, e1, hn⟩ := spec_DrawRotated_some l hl k (by omega)
    obtain ⟨s, m, e2⟩ := spec_DrawKeccakRound_some l hl k (by omega)
    simp only [laws_FnRounds.l0]
    rw [if_neg (by omega), e1, Option.bind_some]
    simp only [impl_Rotated_eq k (by omega) w n hn.2, Option.bind_some, e2, itR_all]
    by_cases h : n ≥ 0
    · rw [if_pos h, impl_Rotated_eq k (by omega) _ _ (wrap_isInt _).2, Option.bind_some, rotated_back w n h hn.2]
      exact j1_true k (by omega) t w n hn _ s m rfl
    · rw [if_neg h]
      have hw := rotated_neg w n h
      have hj := j1_true k (by omega) t w n hn _ s m rfl
      rw [hw] at hj ⊢
      exact hj
  | succ d ih =>
    intro k i hk hi
    obtain ⟨k, rfl⟩ : ∃ q, k = q + 1 := ⟨k - 1, by omega⟩
    simp only [laws_FnRounds.l0]
    rw [if_pos (by omega), impl_KeccakRound.f, Option.bind_some, wrap_nat i (by omega)]
    exact ih k (i + 1) (by omega) (by omega)
theorem FnRounds : laws_FnRounds.Pure := by
  intro l _ _ _
  refine ⟨7000, ?_⟩
  unfold laws_FnRounds.f laws_big.f
  rw [Option.bind_some]
  by_cases hb : (l.length : Int) > 1048576
  · rw [if_pos (decide_eq_true hb)]
  rw [if_neg (by simpa using hb)]
  obtain ⟨t, e⟩ := spec_DrawKeccakF_some l (by omega) 7000 (by omega)
  rw [e, Option.bind_some]
  exact l0_true l (by omega) t 24 7000 0 (by omega) rfl

end Go.Proofs.YtakejfhfkjnhlaaDoor.Pure
