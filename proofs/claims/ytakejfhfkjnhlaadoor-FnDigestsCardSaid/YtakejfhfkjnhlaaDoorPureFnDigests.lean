/- Proved: the law FnDigests answers true at every draw: a digest is that of its padded blocks one behind the other, byte by byte as word by word. Conditions: none. -/
import Derived.Test.YtakejfhfkjnhlaaDoorQFnDigestsx3
import Derived.Test.YtakejfhfkjnhlaaDoorKecMath
set_option linter.unusedVariables false
set_option linter.unusedSimpArgs false
namespace Go.Proofs.YtakejfhfkjnhlaaDoor.Pure
open Go.RowKit Go.Proofs.YtakejfhfkjnhlaaDoor.PFnDigests Go.Proofs.YtakejfhfkjnhlaaDoorW.PrintWords Go.Proofs.YtakejfhfkjnhlaaDoorW.PrintLast Go.Proofs.YtakejfhfkjnhlaaDoorW.PrintMore
open Go.Proofs.YtakejfhfkjnhlaaDoor.M

theorem laws_big_eq (l : List Int) : laws_big.f l = some (decide ((l.length : Int) > 1048576)) := rfl
theorem spec_l01New_l0 (l : List Int) (hl : l.length ≤ 1048576) : ∀ (d k i : Nat) (h : Int), d + 1 ≤ k → i + d = 4000 → ∃ h', spec_l01New.l0 k l h i = some (l, 0, h') := by
  intro d
  induction d with
  | zero =>
    intro k i h hk hi
    obtain ⟨k, rfl⟩ : ∃ j, k = j + 1 := ⟨k - 1, by omega⟩
    refine ⟨h, ?_⟩
    simp only [spec_l01New.l0]
    by_cases hlt : (i : Int) < l.length
    · rw [if_pos hlt, if_neg (by omega)]
    · rw [if_neg hlt]
  | succ d ih =>
    intro k i h hk hi
    obtain ⟨k, rfl⟩ : ∃ j, k = j + 1 := ⟨k - 1, by omega⟩
    simp only [spec_l01New.l0]
    by_cases hlt : (i : Int) < l.length
    · rw [if_pos hlt, if_pos (by omega), if_pos (by omega), wrap_nat i (by omega)]
      exact ih k (i + 1) _ (by omega) (by omega)
    · rw [if_neg hlt]
      exact ⟨h, rfl⟩
theorem spec_l01New_some (l : List Int) (hl : l.length ≤ 1048576) (k : Nat) (hk : 5000 ≤ k) : ∃ h, spec_l01New.f k l = some (l, 0, h) :=
  spec_l01New_l0 l hl 4000 k 0 _ (by omega) (by omega)
theorem spec_l01Byte_some (l : List Int) (hl : l.length ≤ 1048576) (i h : Int) (h0 : 0 ≤ i) (h1 : i ≤ l.length) : ∃ x i' h', spec_l01Byte.f l i h = some (x, i', h') ∧ (0 ≤ x ∧ x ≤ 255) ∧ 0 ≤ i' ∧ i' ≤ l.length := by
  unfold spec_l01Byte.f
  by_cases hlt : i < (l.length : Int)
  · rw [if_pos hlt, if_pos h0]
    refine ⟨_, _, _, rfl, and255 _, ?_⟩
    unfold wrap64
    omega
  · rw [if_neg hlt]
    exact ⟨_, _, _, rfl, and255 _, h0, h1⟩
theorem spec_l01Below_some (l : List Int) (hl : l.length ≤ 1048576) (i h n : Int) (h0 : 0 ≤ i) (h1 : i ≤ l.length) : ∃ x i' h', spec_l01Below.f l i h n = some (x, i', h') ∧ (0 ≤ x ∧ (n ≤ 0 → x = 0) ∧ (0 < n → x < n)) ∧ 0 ≤ i' ∧ i' ≤ l.length := by
  unfold spec_l01Below.f
  by_cases hn : n ≤ 0
  · rw [if_pos hn]
    exact ⟨_, _, _, rfl, ⟨by omega, fun _ => rfl, fun q => by omega⟩, h0, h1⟩
  · rw [if_neg hn]
    obtain ⟨x, i1, g1, e1, hx, a1, b1⟩ := spec_l01Byte_some l hl i h h0 h1
    by_cases hs : n ≤ 256
    · rw [if_pos hs, e1]
      simp only [Option.bind_some]
      rw [if_neg (by omega)]
      refine ⟨_, _, _, rfl, ?_, a1, b1⟩
      rw [Int.tmod_eq_emod_of_nonneg hx.1]
      exact ⟨Int.emod_nonneg _ (by omega), fun q => by omega, fun q => Int.emod_lt_of_pos _ q⟩
    · obtain ⟨y, i2, g2, e2, hy, a2, b2⟩ := spec_l01Byte_some l hl i1 g1 a1 b1
      obtain ⟨z, i3, g3, e3, hz, a3, b3⟩ := spec_l01Byte_some l hl i2 g2 a2 b2
      obtain ⟨t, i4, g4, e4, ht, a4, b4⟩ := spec_l01Byte_some l hl i3 g3 a3 b3
      rw [if_neg hs, e1]
      simp only [Option.bind_some, e2, e3, e4]
      rw [if_neg (by omega)]
      refine ⟨_, _, _, rfl, ?_, a4, b4⟩
      have hw : 0 ≤ wrap64 (wrap64 (wrap64 (wrap64 (x * 16777216) + wrap64 (y * 65536)) + wrap64 (z * 256)) + t) := by
        unfold wrap64
        omega
      rw [Int.tmod_eq_emod_of_nonneg hw]
      exact ⟨Int.emod_nonneg _ (by omega), fun q => by omega, fun q => Int.emod_lt_of_pos _ q⟩
theorem spec_l01PickInt_some (l : List Int) (hl : l.length ≤ 1048576) (i h : Int) (q : List Int) (hq : 0 < q.length) (h0 : 0 ≤ i) (h1 : i ≤ l.length) (hall : ∀ x ∈ q, IsInt x) : ∃ x i' h', spec_l01PickInt.f l i h q = some (x, i', h') ∧ IsInt x ∧ 0 ≤ i' ∧ i' ≤ l.length := by
  unfold spec_l01PickInt.f
  obtain ⟨x, j1, g1, e1, hx, a1, b1⟩ := spec_l01Below_some l hl i h q.length h0 h1
  rw [e1]
  have := hx.2.2 (by omega)
  simp only [Option.bind_some]
  rw [if_pos hx.1, if_pos this]
  refine ⟨_, _, _, rfl, hall _ ?_, a1, b1⟩
  unfold rd
  rw [List.getD_eq_getElem?_getD, List.getElem?_eq_getElem (by omega)]
  exact List.getElem_mem _
theorem spec_l01Text_l0 (l : List Int) (hl : l.length ≤ 1048576) (n : Int) (hn : n ≤ 5000) : ∀ (d k m : Nat) (out : List Int) (j h : Int), d + 1 ≤ k → (m : Int) + d = max n m → out.length = m → 0 ≤ j → j ≤ l.length →
    ∃ r j' h', spec_l01Text.l0 k n out m l j h = some (r, j', h') ∧ (r.size : Int) = max n m ∧ 0 ≤ j' ∧ j' ≤ l.length := by
  intro d
  induction d with
  | zero =>
    intro k m out j h hk hm ho h0 h1
    obtain ⟨k, rfl⟩ : ∃ q, k = q + 1 := ⟨k - 1, by omega⟩
    simp only [spec_l01Text.l0]
    rw [if_neg (by omega)]
    exact ⟨_, _, _, rfl, by rw [strOfNums_size, ho]; omega, h0, h1⟩
  | succ d ih =>
    intro k m out j h hk hm ho h0 h1
    obtain ⟨k, rfl⟩ : ∃ q, k = q + 1 := ⟨k - 1, by omega⟩
    simp only [spec_l01Text.l0]
    obtain ⟨x, j1, g1, e1, hx, a1, b1⟩ := spec_l01Byte_some l hl j h h0 h1
    rw [if_pos (by omega), e1]
    simp only [Option.bind_some]
    rw [if_pos (by omega), wrap_nat' m (by omega)]
    obtain ⟨r, j', h', e2, hs, a2, b2⟩ := ih k (m + 1) (out ++ [x % 256]) j1 g1 (by omega) (by omega) (by simp [ho]) a1 b1
    exact ⟨r, j', h', e2, by omega, a2, b2⟩
theorem spec_l01Text_some (l : List Int) (hl : l.length ≤ 1048576) (j h n : Int) (h0 : 0 ≤ j) (h1 : j ≤ l.length) (k : Nat) (hk : 5003 ≤ k) : ∃ r j' h', spec_l01Text.f k l j h n = some (r, j', h') ∧ (r.size : Int) ≤ 5000 ∧ ((r.size : Int) ≤ n ∨ r.size = 0) ∧ 0 ≤ j' ∧ j' ≤ l.length := by
  obtain ⟨k, rfl⟩ : ∃ q, k = q + 1 := ⟨k - 1, by omega⟩
  have main : ∀ q : Int, q ≤ 5000 → ∃ r j' h', spec_l01Text.j0 (k + 1) q l j h = some (r, j', h') ∧ (r.size : Int) = max q 0 ∧ 0 ≤ j' ∧ j' ≤ l.length := by
    intro q hq
    obtain ⟨r, j', h', e, hs, a, b⟩ := spec_l01Text_l0 l hl q hq (max q 0).toNat k 0 [] j h (by omega) (by omega) rfl h0 h1
    refine ⟨r, j', h', ?_, hs, a, b⟩
    rw [spec_l01Text.j0]
    exact e
  unfold spec_l01Text.f
  by_cases hn : n > 5000
  · rw [if_pos hn]
    obtain ⟨r, j', h', e, hs, a, b⟩ := main 5000 (by omega)
    exact ⟨r, j', h', e, by omega, by omega, a, b⟩
  · rw [if_neg hn]
    obtain ⟨r, j', h', e, hs, a, b⟩ := main n (by omega)
    exact ⟨r, j', h', e, by omega, by omega, a, b⟩
theorem spec_l03Some_some (l : List Int) (hl : l.length ≤ 1048576) (i h : Int) (h0 : 0 ≤ i) (h1 : i ≤ l.length) (k : Nat) (hk : 5003 ≤ k) : ∃ x i' h', spec_l03Some.f k l i h = some (x, i', h') ∧ (x.size : Int) ≤ 5000 := by
  unfold spec_l03Some.f
  obtain ⟨n, j1, g1, e1, hn, a1, b1⟩ := spec_l01PickInt_some l hl i h ([0, 1, 3, 9, 32, 134, 135, 136, 137, 200, 272] : List Int) (by simp) h0 h1 (by
      intro q hq
      simp only [List.mem_cons, List.not_mem_nil, or_false] at hq
      rcases hq with rfl | rfl | rfl | rfl | rfl | rfl | rfl | rfl | rfl | rfl | rfl
      all_goals exact lit_isInt _ (by omega) (by omega))
  obtain ⟨r, j2, g2, e2, hs, _, a2, b2⟩ := spec_l01Text_some l hl j1 g1 n a1 b1 k hk
  rw [e1, Option.bind_some]
  simp only [e2, Option.bind_some]
  exact ⟨_, _, _, rfl, hs⟩
theorem spec_DrawTextOf_some (l : List Int) (hl : l.length ≤ 1048576) (k : Nat) (hk : 5003 ≤ k) : ∃ r, spec_DrawTextOf.f k l = some r ∧ r.size ≤ 5000 := by
  unfold spec_DrawTextOf.f
  obtain ⟨h, e0⟩ := spec_l01New_some l hl k (by omega)
  obtain ⟨r, j1, g1, e1, hs⟩ := spec_l03Some_some l hl 0 h (by omega) (by omega) k hk
  rw [e0, Option.bind_some]
  simp only [e1, Option.bind_some]
  exact ⟨_, rfl, by omega⟩
open Go.Proofs.YtakejfhfkjnhlaaDoor.KW
theorem xor8 (a b : Nat) (ha : a < 256) (hb : b < 256) : Go.bits .xor .u8 (a : Int) (b : Int) = ((a ^^^ b : Nat) : Int) := by
  show IntKind.u8.wrap ((BitVec.ofInt 8 (a : Int) ^^^ BitVec.ofInt 8 (b : Int)).toNat : Int) = _
  rw [BitVec.toNat_xor, BitVec.ofInt_natCast, BitVec.ofInt_natCast, BitVec.toNat_ofNat, BitVec.toNat_ofNat, Nat.mod_eq_of_lt (show a < 2 ^ 8 from ha), Nat.mod_eq_of_lt (show b < 2 ^ 8 from hb), IntKind.wrap_u8]
  have h := Nat.xor_lt_two_pow (n := 8) (x := a) (y := b) ha hb
  generalize a ^^^ b = c at h ⊢
  omega
theorem xor64 (a b : Nat) (ha : a < 2 ^ 64) (hb : b < 2 ^ 64) : Go.bits .xor .u64 (a : Int) (b : Int) = ((a ^^^ b : Nat) : Int) := by
  show IntKind.u64.wrap ((BitVec.ofInt 64 (a : Int) ^^^ BitVec.ofInt 64 (b : Int)).toNat : Int) = _
  rw [BitVec.toNat_xor, BitVec.ofInt_natCast, BitVec.ofInt_natCast, BitVec.toNat_ofNat, BitVec.toNat_ofNat, Nat.mod_eq_of_lt ha, Nat.mod_eq_of_lt hb]
  have h := Nat.xor_lt_two_pow (n := 64) (x := a) (y := b) ha hb
  generalize a ^^^ b = c at h ⊢
  exact u64_id _ (by omega) (by omega)
theorem byte_xor (X Y k : Nat) : (X ^^^ Y) / 256 ^ k % 256 = (X / 256 ^ k % 256) ^^^ (Y / 256 ^ k % 256) := by
  rw [show (256 : Nat) = 2 ^ 8 from rfl, ← Nat.pow_mul, ← Nat.shiftRight_eq_div_pow, ← Nat.shiftRight_eq_div_pow, ← Nat.shiftRight_eq_div_pow, Nat.shiftRight_xor_distrib, Nat.xor_mod_two_pow]
theorem wordN_byte (t : ByteArray) (at_ k : Nat) (hk : k < 8) : wordN t at_ / 256 ^ k % 256 = (bt t ((at_ + k : Nat) : Int)).toNat := by
  have h := leB_leV ((List.range 8).map fun j => (bt t ((at_ + j : Nat) : Int)).toNat) (by
    intro b hb
    obtain ⟨j, _, rfl⟩ := List.mem_map.mp hb
    exact (bt_nat t _).2)
  rw [List.length_map, List.length_range, leB8] at h
  have h2 := congrArg (fun l => l[k]?) h
  simp only [List.getElem?_map, List.getElem?_range hk, Option.map_some, Option.some.injEq] at h2
  exact h2
theorem bf_at (v : Nat → Int) (l : List Int) : ∀ (m : Nat), m ≤ l.length → ∀ j, j < m → rd (bf id v l m) (j : Int) = v j
  | 0, _, _, h => by omega
  | m + 1, hm, j, h => by
    rw [show bf id v l (m + 1) = (bf id v l m).set m (v m) from rfl, rd_set _ _ _ _ (by rw [bf_length]; omega)]
    by_cases e : j = m
    · rw [if_pos e, e]
    · rw [if_neg e]
      exact bf_at v l m (by omega) j (by omega)
/-- what the law's inner loop lays at place j -/
def xV (p : ByteArray) (at_ : Nat) (B : List Int) (j : Nat) : Int := Go.bits .xor .u8 (rd B (j : Int)) (bt p ((at_ + j : Nat) : Int))
theorem bytesOf_nat (s : ByteArray) : Go.Proofs.YtakejfhfkjnhlaaDoorW.PrintWords.bytesOf s = (byteNs s).map fun (b : Nat) => (b : Int) := by
  unfold Go.Proofs.YtakejfhfkjnhlaaDoorW.PrintWords.bytesOf byteNs
  rw [List.map_map]
  rfl
theorem rd_text (l : List Int) (j : Nat) (hj : j < 8 * l.length) : rd (Go.Proofs.YtakejfhfkjnhlaaDoorW.PrintWords.bytesOf (strOfNums (textL l))) (j : Int) = (((rd l ((j / 8 : Nat) : Int)).toNat / 256 ^ (j % 8) % 256 : Nat) : Int) := by
  rw [bytesOf_nat, byteNs_text, rd_nat, List.getElem?_map, List.getElem?_map, List.getElem?_range hj]
  rfl
theorem block_in (p : ByteArray) (at_ : Nat) (l : List Int) (hl : l.length = 25) (hw : AllW l) :
    bf id (xV p at_ (Go.Proofs.YtakejfhfkjnhlaaDoorW.PrintWords.bytesOf (strOfNums (textL l)))) (Go.Proofs.YtakejfhfkjnhlaaDoorW.PrintWords.bytesOf (strOfNums (textL l))) 136 = textL (abL p at_ l) := by
  have hB : (Go.Proofs.YtakejfhfkjnhlaaDoorW.PrintWords.bytesOf (strOfNums (textL l))).length = 200 := by rw [bytesOf_nat, List.length_map, byteNs_length, Go.Proofs.YtakejfhfkjnhlaaDoor.M.text_size, hl]
  rw [textL_range (abL p at_ l), abL_length, hl]
  conv => lhs; rw [rd_range (bf id (xV p at_ (Go.Proofs.YtakejfhfkjnhlaaDoorW.PrintWords.bytesOf (strOfNums (textL l)))) (Go.Proofs.YtakejfhfkjnhlaaDoorW.PrintWords.bytesOf (strOfNums (textL l))) 136), bf_length, hB]
  apply List.map_congr_left
  intro j hj
  have hj2 : j < 200 := List.mem_range.mp hj
  have hx := hw ((j / 8 : Nat) : Int)
  by_cases c : j < 136
  · rw [bf_at _ _ 136 (by omega) j c]
    unfold abL
    rw [bf_at _ _ 17 (by omega) (j / 8) (by omega)]
    unfold xV abV
    rw [rd_text l j (by omega)]
    obtain ⟨b1, b2⟩ := bt_nat p ((at_ + j : Nat) : Int)
    have hY := wordN_byte p (at_ + 8 * (j / 8)) (j % 8) (by omega)
    rw [show at_ + 8 * (j / 8) + j % 8 = at_ + j by omega] at hY
    have hX : rd l ((j / 8 : Nat) : Int) = (((rd l ((j / 8 : Nat) : Int)).toNat : Nat) : Int) := (Int.toNat_of_nonneg hx.1).symm
    have hX2 : (rd l ((j / 8 : Nat) : Int)).toNat < 2 ^ 64 := by have := hx.1; have := hx.2; omega
    generalize (rd l ((j / 8 : Nat) : Int)).toNat = X at hX hX2 ⊢
    rw [hX, xor64 X _ hX2 (wordN_lt _ _), Int.toNat_natCast, byte_xor, hY, ← b1, xor8 _ _ (Nat.mod_lt _ (by decide)) b2, Int.toNat_natCast]
  · rw [bf_after 136 j (by omega), rd_text l j (by omega)]
    unfold abL
    rw [bf_after 17 (j / 8) (by omega)]
/-- the text of the state after m blocks -/
def stT (p : ByteArray) (m : Nat) : ByteArray := strOfNums (textL (stL p m))
theorem stT_size (p : ByteArray) (m : Nat) : (stT p m).size = 200 := by
  unfold stT
  rw [Go.Proofs.YtakejfhfkjnhlaaDoor.M.text_size, stL_length]
theorem stT_step (p : ByteArray) (m : Nat) : kfF (strOfNums (bf id (xV p (136 * m) (Go.Proofs.YtakejfhfkjnhlaaDoorW.PrintWords.bytesOf (stT p m))) (Go.Proofs.YtakejfhfkjnhlaaDoorW.PrintWords.bytesOf (stT p m)) 136)) = stT p (m + 1) := by
  unfold stT
  rw [block_in p (136 * m) (stL p m) (stL_length _ _) (AllW_st _ _)]
  have hl : (abL p (136 * m) (stL p m)).length = 25 := by rw [abL_length, stL_length]
  unfold kfF
  rw [if_pos (by rw [Go.Proofs.YtakejfhfkjnhlaaDoor.M.text_size, hl]), load_text _ hl (AllW_ab (AllW_st _ _)), stL]
theorem stT_zero (p : ByteArray) : stT p 0 = ⟨(List.replicate 200 0).toArray⟩ := by
  unfold stT stL
  exact byteNs_inj (by kernel_rfl)
theorem byteNs_strOf (l : List Int) : byteNs (strOfNums l) = l.map (fun n => n.toNat % 256) := by
  unfold byteNs
  rw [strOfNums_data, List.map_map]
  apply List.map_congr_left
  intro n _
  simp
theorem pad_prefix (s : ByteArray) : (padOf s).extract 0 s.size = s := by
  apply byteNs_inj
  rw [byteNs_extract, List.drop_zero, Nat.sub_zero]
  unfold padOf padFin
  rw [byteNs_strOf, ← List.map_take, List.take_set_of_le (by rw [Int.toNat_natCast, padL_length]; omega)]
  unfold padL
  rw [List.append_assoc, List.take_left' (by rw [bytesOf_nat, List.length_map, byteNs_length]), bytesOf_nat, List.map_map]
  conv => rhs; rw [← List.map_id (byteNs s)]
  apply List.map_congr_left
  intro b hb
  have := byteNs_lt s b hb
  show ((b : Int)).toNat % 256 = b
  omega
theorem l2_walk (t p d : ByteArray) (m : Nat) (B : List Int) (hB : B.length = 200) (hp : 136 * m + 136 ≤ p.size) (hm : m ≤ 1000000) : ∀ (e k i : Nat), i + e = 136 → laws_FnDigests.l2 (k + e + 1) t p d ((136 * m : Nat) : Int) (bf id (xV p (136 * m) B) B i) (i : Int) = laws_FnDigests.l1 k t p d (kfF (strOfNums (bf id (xV p (136 * m) B) B 136))) ((136 * (m + 1) : Nat) : Int) := by
  intro e
  induction e with
  | zero =>
    intro k i hi
    obtain rfl : i = 136 := by omega
    have ew : wrap64 (((136 * m : Nat) : Int) + 136) = ((136 * (m + 1) : Nat) : Int) := by unfold wrap64; omega
    rw [laws_FnDigests.l2, if_neg (by omega), impl_KeccakF.f, Option.bind_some, ew]
  | succ e ih =>
    intro k i hi
    have ew : wrap64 (((136 * m : Nat) : Int) + (i : Int)) = ((136 * m + i : Nat) : Int) := by unfold wrap64; omega
    have hlen : (bf id (xV p (136 * m) B) B i).length = 200 := by rw [bf_length, hB]
    rw [laws_FnDigests.l2, if_pos (by omega), if_pos (by omega), if_pos (by omega), ew, if_pos (by omega), if_pos (by omega), wrap_nat i (by omega), bf_after i i (Nat.le_refl _), Int.toNat_natCast]
    exact ih k (i + 1) (by omega)
theorem l1_true (t : ByteArray) (ht : t.size ≤ 5000) : ∀ (e m k : Nat), m + e = (padOf t).size / 136 → 140 * e + 10 ≤ k → laws_FnDigests.l1 k t (padOf t) (digOf t) (stT (padOf t) m) ((136 * m : Nat) : Int) = some true := by
  have hps := padOf_size t
  have hpb := padOf_blocks t
  intro e
  induction e with
  | zero =>
    intro m k hm hk
    obtain ⟨k, rfl⟩ : ∃ q, k = q + 1 := ⟨k - 1, by omega⟩
    have hd := digOf_size t
    have hsz := stT_size (padOf t) m
    have hdig : digOf t = (stT (padOf t) m).extract 0 32 := by
      unfold digOf stT
      rw [← hm]
      rfl
    have hx : (t ++ (⟨#[120]⟩ : ByteArray)).size = t.size + 1 := by rw [ByteArray.size_append]; rfl
    have h120 : (⟨#[120]⟩ : ByteArray).size = 1 := rfl
    obtain ⟨r, er, _, hr⟩ := impl_DigestHex_some t (by omega)
    have e1 : spec_Digest.f t = some (digOf t) := by unfold spec_Digest.f; rw [if_pos (by omega)]
    have e2 : impl_DigestPair.f t (⟨#[120]⟩ : ByteArray) = some (digOf (t ++ (⟨#[120]⟩ : ByteArray))) := by unfold impl_DigestPair.f; rw [if_pos (by omega)]
    have e3 : impl_Digest.f (t ++ (⟨#[120]⟩ : ByteArray)) = some (digOf (t ++ (⟨#[120]⟩ : ByteArray))) := by unfold impl_Digest.f; rw [if_pos (by omega)]
    rw [laws_FnDigests.l1, if_neg (by omega), if_pos (by omega), if_pos (by omega), if_pos (by omega), if_pos (by rw [← hdig]), if_pos (by omega), if_pos (by omega), if_pos (by omega), if_pos (by omega), Int.toNat_natCast, pad_prefix, if_pos rfl, e1, Option.bind_some, if_pos rfl, e2, Option.bind_some, if_pos (by omega), e3, Option.bind_some, if_pos rfl, er, Option.bind_some, hr]
    rfl
  | succ e ih =>
    intro m k hm hk
    obtain ⟨k, rfl⟩ : ∃ q, k = q + 136 + 1 + 1 := ⟨k - 138, by omega⟩
    have hsz := stT_size (padOf t) m
    have hB : (Go.Proofs.YtakejfhfkjnhlaaDoorW.PrintWords.bytesOf (stT (padOf t) m)).length = 200 := by rw [bytesOf_nat, List.length_map, byteNs_length, hsz]
    rw [laws_FnDigests.l1, if_pos (by omega), if_pos (by omega)]
    have h := l2_walk t (padOf t) (digOf t) m _ hB (by omega) (by omega) 136 k 0 (by omega)
    rw [stT_step] at h
    exact h.trans (ih (m + 1) k (by omega) (by omega))
theorem l0_true (t p d : ByteArray) (k : Nat) (h : laws_FnDigests.l1 k t p d ⟨(List.replicate 200 0).toArray⟩ 0 = some true) : ∀ (e i : Nat), i + e = 200 → laws_FnDigests.l0 (k + e + 1) t p d ⟨(List.replicate i 0).toArray⟩ = some true := by
  have hsz : ∀ i, (⟨(List.replicate i (0 : UInt8)).toArray⟩ : ByteArray).size = i := fun i => by
    show (List.replicate i (0 : UInt8)).toArray.size = i
    simp
  intro e
  induction e with
  | zero =>
    intro i hi
    obtain rfl : i = 200 := by omega
    rw [laws_FnDigests.l0, if_neg (by rw [hsz]; omega)]
    exact h
  | succ e ih =>
    intro i hi
    have hap : (⟨(List.replicate i (0 : UInt8)).toArray⟩ : ByteArray) ++ (⟨#[0]⟩ : ByteArray) = ⟨(List.replicate (i + 1) (0 : UInt8)).toArray⟩ := by
      apply ByteArray.ext
      apply Array.ext'
      simp [List.replicate_succ']
    rw [laws_FnDigests.l0, if_pos (by rw [hsz]; omega), if_pos (by rw [hsz]; omega), hap]
    exact ih (i + 1) (by omega)
theorem FnDigests : laws_FnDigests.Pure := by
  intro l _ _ _
  refine ⟨20000, ?_⟩
  unfold laws_FnDigests.f laws_big.f
  rw [Option.bind_some]
  by_cases hb : (l.length : Int) > 1048576
  · rw [if_pos (decide_eq_true hb)]
  rw [if_neg (by simpa using hb)]
  obtain ⟨t, e, ht⟩ := spec_DrawTextOf_some l (by omega) 20000 (by omega)
  have hps := padOf_size t
  have e1 : impl_KeccakPad.f t = some (padOf t) := by unfold impl_KeccakPad.f; rw [if_pos (by omega)]
  have e2 : impl_Digest.f t = some (digOf t) := by unfold impl_Digest.f; rw [if_pos (by omega)]
  rw [e, Option.bind_some, e1, Option.bind_some, e2, Option.bind_some]
  have h := l1_true t ht ((padOf t).size / 136) 0 19799 (by omega) (by omega)
  rw [stT_zero] at h
  exact l0_true t (padOf t) (digOf t) 19799 h 200 0 (by omega)

end Go.Proofs.YtakejfhfkjnhlaaDoor.Pure
