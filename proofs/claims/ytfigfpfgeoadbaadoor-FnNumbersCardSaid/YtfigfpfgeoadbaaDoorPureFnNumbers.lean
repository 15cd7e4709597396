/- Proved: the law FnNumbers answers true at every draw: what is written as a number, a short text or figures is read back as it was. Conditions: none. -/
import Derived.Test.YtfigfpfgeoadbaaDoorQFnNumbersx4
import Derived.Test.YtfigfpfgeoadbaaDoorMod
import Derived.Test.YtfigfpfgeoadbaaDoorRead
import Derived.Test.YtfigfpfgeoadbaaDoorIndexByte
import Derived.Test.YtfigfpfgeoadbaaDoorItoa
import Derived.Test.YtfigfpfgeoadbaaDoorDraw
set_option linter.unusedVariables false
set_option linter.unusedSimpArgs false
namespace Go.Proofs.YtfigfpfgeoadbaaDoor.Pure
open Go.RowKit Go.Proofs.YtfigfpfgeoadbaaDoor.PFnNumbers Go.Proofs.YtfigfpfgeoadbaaDoorW.PrintWords Go.Proofs.YtfigfpfgeoadbaaDoorW.PrintLast Go.Proofs.YtfigfpfgeoadbaaDoorW.PrintMore
open Go.Proofs.YtfigfpfgeoadbaaDoor.M

theorem impl_varText_l0 : ∀ (d k n : Nat) (l : List Int), d < k → n < 128 ^ (d + 1) → n ≤ 9223372036854775807 → l.length + d ≤ 1000 → impl_varText.l0 k n l = some (strOfNums (l ++ varNums n)) := by
  intro d
  induction d with
  | zero =>
    intro k n l hk hn _ hl
    obtain ⟨k, rfl⟩ : ∃ j, k = j + 1 := ⟨k - 1, by omega⟩
    simp only [impl_varText.l0]
    rw [if_neg (by omega), if_pos (by omega), varNums_small n (by omega), show (n : Int) % 256 = n by omega]
  | succ d ih =>
    intro k n l hk hn hb hl
    obtain ⟨k, rfl⟩ : ∃ j, k = j + 1 := ⟨k - 1, by omega⟩
    simp only [impl_varText.l0]
    by_cases h : n < 128
    · rw [if_neg (by omega), if_pos (by omega), varNums_small n h, show (n : Int) % 256 = n by omega]
    · rw [if_pos (by omega), if_pos (by omega), Int.tdiv_eq_ediv_of_nonneg (by omega), Int.tmod_eq_emod_of_nonneg (by omega), varNums_great n (by omega)]
      rw [show wrap64 ((n : Int) / 128) = ((n / 128 : Nat) : Int) by unfold wrap64; omega, show wrap64 (128 + (n : Int) % 128) % 256 = ((n % 128 + 128 : Nat) : Int) by unfold wrap64; omega]
      rw [ih k (n / 128) _ (by omega) (by rw [Nat.pow_succ] at hn; omega) (by omega) (by simp; omega)]
      simp
theorem impl_varText_eq (k : Nat) (hk : 12 ≤ k) (n : Nat) (hn : n ≤ 9223372036854775807) : impl_varText.f k n = some (strOfNums (varNums n)) := by
  unfold impl_varText.f
  exact impl_varText_l0 10 k n [] (by omega) (by omega) hn (by simp)
theorem impl_Decimal_eq (n : Int) (h0 : -9223372036854775808 ≤ n) (h1 : n ≤ 9223372036854775807) : impl_Decimal.f n = some ⟨(Lib.itoa n).toArray⟩ := by
  unfold impl_Decimal.f strconv_Itoa.f
  rw [if_pos ⟨h0, h1⟩]
  rfl
theorem laws_big_eq (l : List Int) : laws_big.f l = some (decide ((l.length : Int) > 1048576)) := rfl
theorem spec_l01Byte_some (l : List Int) (hl : l.length ≤ 1048576) (i h : Int) (h0 : 0 ≤ i) (h1 : i ≤ l.length) : ∃ x i' h', spec_l01Byte.f l i h = some (x, i', h') ∧ (0 ≤ x ∧ x ≤ 255) ∧ 0 ≤ i' ∧ i' ≤ l.length := by
  unfold spec_l01Byte.f
  by_cases hlt : i < (l.length : Int)
  · rw [if_pos hlt, if_pos h0]
    refine ⟨_, _, _, rfl, and255 _, ?_⟩
    unfold wrap64
    omega
  · rw [if_neg hlt]
    exact ⟨_, _, _, rfl, and255 _, h0, h1⟩
theorem spec_l01Below_some (l : List Int) (hl : l.length ≤ 1048576) (i h n : Int) (h0 : 0 ≤ i) (h1 : i ≤ l.length) : ∃ x i' h', spec_l01Below.f l i h n = some (x, i', h') ∧ (0 ≤ x ∧ (n ≤ 0 → x = 0) ∧ (0 < n → x < n)) ∧ 0 ≤ i' ∧ i' ≤ l.length := by
  unfold spec_l01Below.f
  by_cases hn : n ≤ 0
  · rw [if_pos hn]
    exact ⟨_, _, _, rfl, ⟨by omega, fun _ => rfl, fun q => by omega⟩, h0, h1⟩
  · rw [if_neg hn]
    obtain ⟨x, i1, g1, e1, hx, a1, b1⟩ := spec_l01Byte_some l hl i h h0 h1
    by_cases hs : n ≤ 256
    · rw [if_pos hs, e1]
      simp only [Option.bind_some]
      rw [if_neg (by omega)]
      refine ⟨_, _, _, rfl, ?_, a1, b1⟩
      rw [Int.tmod_eq_emod_of_nonneg hx.1]
      exact ⟨Int.emod_nonneg _ (by omega), fun q => by omega, fun q => Int.emod_lt_of_pos _ q⟩
    · obtain ⟨y, i2, g2, e2, hy, a2, b2⟩ := spec_l01Byte_some l hl i1 g1 a1 b1
      obtain ⟨z, i3, g3, e3, hz, a3, b3⟩ := spec_l01Byte_some l hl i2 g2 a2 b2
      obtain ⟨t, i4, g4, e4, ht, a4, b4⟩ := spec_l01Byte_some l hl i3 g3 a3 b3
      rw [if_neg hs, e1]
      simp only [Option.bind_some, e2, e3, e4]
      rw [if_neg (by omega)]
      refine ⟨_, _, _, rfl, ?_, a4, b4⟩
      have hw : 0 ≤ wrap64 (wrap64 (wrap64 (wrap64 (x * 16777216) + wrap64 (y * 65536)) + wrap64 (z * 256)) + t) := by
        unfold wrap64
        omega
      rw [Int.tmod_eq_emod_of_nonneg hw]
      exact ⟨Int.emod_nonneg _ (by omega), fun q => by omega, fun q => Int.emod_lt_of_pos _ q⟩
theorem spec_l01PickInt_some (l : List Int) (hl : l.length ≤ 1048576) (i h : Int) (q : List Int) (hq : 0 < q.length) (h0 : 0 ≤ i) (h1 : i ≤ l.length) (hall : ∀ x ∈ q, IsInt x) : ∃ x i' h', spec_l01PickInt.f l i h q = some (x, i', h') ∧ IsInt x ∧ 0 ≤ i' ∧ i' ≤ l.length := by
  unfold spec_l01PickInt.f
  obtain ⟨x, j1, g1, e1, hx, a1, b1⟩ := spec_l01Below_some l hl i h q.length h0 h1
  rw [e1]
  have := hx.2.2 (by omega)
  simp only [Option.bind_some]
  rw [if_pos hx.1, if_pos this]
  refine ⟨_, _, _, rfl, hall _ ?_, a1, b1⟩
  unfold rd
  rw [List.getD_eq_getElem?_getD, List.getElem?_eq_getElem (by omega)]
  exact List.getElem_mem _
theorem spec_l01Number_some (l : List Int) (hl : l.length ≤ 1048576) (i h : Int) (h0 : 0 ≤ i) (h1 : i ≤ l.length) : ∃ x i' h', spec_l01Number.f l i h = some (x, i', h') ∧ IsInt x ∧ 0 ≤ i' ∧ i' ≤ l.length := by
  unfold spec_l01Number.f
  obtain ⟨x, j1, g1, e1, hx, a1, b1⟩ := spec_l01Below_some l hl i h 4 h0 h1
  rw [e1, Option.bind_some]
  by_cases c0 : x = 0
  · obtain ⟨y, j2, g2, e2, hy, a2, b2⟩ := spec_l01PickInt_some l hl j1 g1 ([(-1), 0, 127, 128, 16383, 16384, 1000000000, 1000000001, 9223372036854775807, (-9223372036854775808)] : List Int) (by simp) a1 b1 (by
      intro q hq
      simp only [List.mem_cons, List.not_mem_nil, or_false] at hq
      rcases hq with rfl | rfl | rfl | rfl | rfl | rfl | rfl | rfl | rfl | rfl
      all_goals exact lit_isInt _ (by omega) (by omega))
    simp only [if_pos c0, e2, Option.bind_some]
    exact ⟨_, _, _, rfl, hy, a2, b2⟩
  by_cases c1 : x = 1
  · obtain ⟨y, j2, g2, e2, hy, a2, b2⟩ := spec_l01Below_some l hl j1 g1 1000000000 a1 b1
    simp only [if_neg c0, if_pos c1, e2, Option.bind_some]
    have := hy.2.2 (by omega)
    exact ⟨_, _, _, rfl, ⟨by omega, by omega⟩, a2, b2⟩
  · obtain ⟨y, j2, g2, e2, hy, a2, b2⟩ := spec_l01Below_some l hl j1 g1 400 a1 b1
    simp only [if_neg c0, if_neg c1, e2, Option.bind_some]
    have := hy.2.2 (by omega)
    exact ⟨_, _, _, rfl, ⟨by omega, by omega⟩, a2, b2⟩
theorem spec_l01New_l0 (l : List Int) (hl : l.length ≤ 1048576) : ∀ (d k i : Nat) (h : Int), d + 1 ≤ k → i + d = 4000 → ∃ h', spec_l01New.l0 k l h i = some (l, 0, h') := by
  intro d
  induction d with
  | zero =>
    intro k i h hk hi
    obtain ⟨k, rfl⟩ : ∃ j, k = j + 1 := ⟨k - 1, by omega⟩
    refine ⟨h, ?_⟩
    simp only [spec_l01New.l0]
    by_cases hlt : (i : Int) < l.length
    · rw [if_pos hlt, if_neg (by omega)]
    · rw [if_neg hlt]
  | succ d ih =>
    intro k i h hk hi
    obtain ⟨k, rfl⟩ : ∃ j, k = j + 1 := ⟨k - 1, by omega⟩
    simp only [spec_l01New.l0]
    by_cases hlt : (i : Int) < l.length
    · rw [if_pos hlt, if_pos (by omega), if_pos (by omega), wrap_nat i (by omega)]
      exact ih k (i + 1) _ (by omega) (by omega)
    · rw [if_neg hlt]
      exact ⟨h, rfl⟩
theorem spec_l01New_some (l : List Int) (hl : l.length ≤ 1048576) (k : Nat) (hk : 5000 ≤ k) : ∃ h, spec_l01New.f k l = some (l, 0, h) :=
  spec_l01New_l0 l hl 4000 k 0 _ (by omega) (by omega)
theorem spec_DrawVarText_some (l : List Int) (hl : l.length ≤ 1048576) (k : Nat) (hk : 5003 ≤ k) : ∃ n, spec_DrawVarText.f k l = some n := by
  unfold spec_DrawVarText.f
  obtain ⟨h, e0⟩ := spec_l01New_some l hl k (by omega)
  obtain ⟨x, j1, g1, e1, _, _, _⟩ := spec_l01Number_some l hl 0 h (by omega) (by omega)
  rw [e0, Option.bind_some]
  simp only [e1, Option.bind_some]
  exact ⟨_, rfl⟩
theorem impl_ReadVar_l0 (s : ByteArray) (a : Nat) (ha : a ≤ 2000000) (hs : s.size ≤ 2000000) : ∀ (f k i n u : Nat), 2 * f + 2 ≤ k → i + f = 5 → Aside0 (u = 128 ^ i) → n < u →
    impl_ReadVar.l0 k s a n u i = some (rvFin a (rvGo f ((byteNs s).drop (a + i)) n u i)) := by
  intro f
  induction f with
  | zero =>
    intro k i n u hk hi hu hn
    obtain ⟨k, rfl⟩ : ∃ j, k = j + 2 := ⟨k - 2, by omega⟩
    simp only [impl_ReadVar.l0, impl_ReadVar.j2]
    rw [if_neg (by omega)]
    simp [rvGo, rvFin]
  | succ f ih =>
    intro k i n u hk hi hu hn
    obtain ⟨k, rfl⟩ : ∃ j, k = j + 2 := ⟨k - 2, by omega⟩
    simp only [impl_ReadVar.l0, impl_ReadVar.j2]
    have ew : wrap64 ((a : Int) + (i : Int)) = ((a + i : Nat) : Int) := by unfold wrap64; omega
    rw [if_pos (by omega), ew]
    by_cases hlt : a + i < s.size
    · rw [decide_eq_true (by omega), if_pos rfl, if_pos (by omega), if_pos (by omega)]
      obtain ⟨hb, hb2⟩ := bt_nat s ((a + i : Nat) : Int)
      rw [byteNs_drop s (a + i) hlt, ← hb]
      generalize (bt s ((a + i : Nat) : Int)).toNat = b at hb2 ⊢
      have hu2 : u ≤ 268435456 := by
        rw [hu.out]
        exact pow128 i (by omega)
      obtain ⟨e1, e2, e3, e4, e5, hnn⟩ := rv_arith b u n hb2 hu2 hn
      rw [e1, e2, e3, e4, e5, wrap_nat' i (by omega), wrap_nat' (a + i) (by omega)]
      clear e1 e2 e3 e4 e5 ew
      (try simp only [Int.toNat_natCast])
      simp only [rvGo]
      by_cases hge : 128 ≤ b
      · rw [if_pos (by omega), if_pos hge, ih k (i + 1) _ _ (by omega) (by omega) ⟨by rw [hu.out, Nat.pow_succ]⟩ hnn]
        rw [show a + (i + 1) = a + i + 1 by omega]
      · rw [if_neg (by omega), if_neg hge]
        by_cases hz : b = 0
        · rw [if_pos (by omega)]
          by_cases hi0 : 0 < i
          · rw [if_pos (by omega), if_pos (Or.inl ⟨hz, hi0⟩)]
            rfl
          · rw [if_neg (by omega)]
            by_cases hbig : 1000000000 < n + b % 128 * u
            · rw [if_pos (by omega), if_pos (Or.inr hbig)]
              rfl
            · rw [if_neg (by omega), if_neg (by omega)]
              simp only [rvFin]
              rw [show a + (i + 1) = a + i + 1 by omega]
        · rw [if_neg (by omega)]
          by_cases hbig : 1000000000 < n + b % 128 * u
          · rw [if_pos (by omega), if_pos (Or.inr hbig)]
            rfl
          · rw [if_neg (by omega), if_neg (by omega)]
            simp only [rvFin]
            rw [show a + (i + 1) = a + i + 1 by omega]
    · rw [decide_eq_false (by omega), if_neg (by simp), List.drop_eq_nil_of_le (by rw [byteNs_length]; omega)]
      simp [rvGo, rvFin]
theorem impl_ReadVar_eq (k : Nat) (hk : 20 ≤ k) (s : ByteArray) (hs : s.size ≤ 2000000) (a : Int) : impl_ReadVar.f k s a = some (readVarOf s a) := by
  unfold impl_ReadVar.f readVarOf
  obtain ⟨k, rfl⟩ : ∃ j, k = j + 1 := ⟨k - 1, by omega⟩
  simp only [impl_ReadVar.j0]
  by_cases h0 : a < 0
  · rw [if_pos h0, if_pos (Or.inl h0)]
    simp
  · by_cases h1 : (s.size : Int) < a
    · rw [if_neg h0, if_pos (Or.inr h1), decide_eq_true (show a > (s.size : Int) by omega)]
      simp
    · rw [if_neg h0, if_neg (show ¬ (a < 0 ∨ (s.size : Int) < a) by omega), decide_eq_false (show ¬ a > (s.size : Int) by omega)]
      simp only [Bool.false_eq_true, if_false]
      obtain ⟨n, rfl⟩ := Int.eq_ofNat_of_zero_le (show 0 ≤ a by omega)
      have h := impl_ReadVar_l0 s n (by omega) hs 5 k 0 0 1 (by omega) (by omega) ⟨rfl⟩ (by omega)
      rw [Int.toNat_natCast]
      exact h
theorem spec_l01Once_some (l : List Int) (hl : l.length ≤ 1048576) (i h n : Int) (h0 : 0 ≤ i) (h1 : i ≤ l.length) : ∃ x i' h', spec_l01Once.f l i h n = some (x, i', h') ∧ 0 ≤ i' ∧ i' ≤ l.length := by
  unfold spec_l01Once.f
  obtain ⟨x, j1, g1, e1, hx, a1, b1⟩ := spec_l01Below_some l hl i h n h0 h1
  rw [e1, Option.bind_some]
  exact ⟨_, _, _, rfl, a1, b1⟩
theorem spec_l01Long_l0 (n : Int) (v : Int) (hn : n ≤ 1048576) : ∀ (d k : Nat) (i : Nat) (out : List Int), d + 1 ≤ k → (i : Int) + d = max n i → (out.length : Int) = max n 0 → ∃ r, spec_l01Long.l0 k n v out i = some r ∧ (r.size : Int) = max n 0 := by
  intro d
  induction d with
  | zero =>
    intro k i out hk hi ho
    obtain ⟨k, rfl⟩ : ∃ q, k = q + 1 := ⟨k - 1, by omega⟩
    simp only [spec_l01Long.l0]
    rw [if_neg (by omega)]
    exact ⟨_, rfl, by rw [strOfNums_size, ho]⟩
  | succ d ih =>
    intro k i out hk hi ho
    obtain ⟨k, rfl⟩ : ∃ q, k = q + 1 := ⟨k - 1, by omega⟩
    simp only [spec_l01Long.l0]
    rw [if_pos (by omega), if_pos (by omega), if_pos (by omega), wrap_nat i (by omega)]
    exact ih k (i + 1) _ (by omega) (by omega) (by rw [List.length_set]; exact ho)
theorem spec_l01Long_some (n v : Int) (h0 : 0 ≤ n) (hn : n ≤ 1048576) (k : Nat) (hk : n.toNat + 1 ≤ k) : ∃ r, spec_l01Long.f k n v = some r ∧ (r.size : Int) = n := by
  unfold spec_l01Long.f
  rw [if_pos h0, if_pos (by omega)]
  obtain ⟨r, e, hs⟩ := spec_l01Long_l0 n v hn n.toNat k 0 (List.replicate n.toNat 0) (by omega) (by omega) (by rw [List.length_replicate]; omega)
  exact ⟨r, e, by omega⟩
theorem spec_l01Text_l0 (l : List Int) (hl : l.length ≤ 1048576) (n : Int) (hn : n ≤ 5000) : ∀ (d k m : Nat) (out : List Int) (j h : Int), d + 1 ≤ k → (m : Int) + d = max n m → out.length = m → 0 ≤ j → j ≤ l.length →
    ∃ r j' h', spec_l01Text.l0 k n out m l j h = some (r, j', h') ∧ (r.size : Int) = max n m ∧ 0 ≤ j' ∧ j' ≤ l.length := by
  intro d
  induction d with
  | zero =>
    intro k m out j h hk hm ho h0 h1
    obtain ⟨k, rfl⟩ : ∃ q, k = q + 1 := ⟨k - 1, by omega⟩
    simp only [spec_l01Text.l0]
    rw [if_neg (by omega)]
    exact ⟨_, _, _, rfl, by rw [strOfNums_size, ho]; omega, h0, h1⟩
  | succ d ih =>
    intro k m out j h hk hm ho h0 h1
    obtain ⟨k, rfl⟩ : ∃ q, k = q + 1 := ⟨k - 1, by omega⟩
    simp only [spec_l01Text.l0]
    obtain ⟨x, j1, g1, e1, hx, a1, b1⟩ := spec_l01Byte_some l hl j h h0 h1
    rw [if_pos (by omega), e1]
    simp only [Option.bind_some]
    rw [if_pos (by omega), wrap_nat' m (by omega)]
    obtain ⟨r, j', h', e2, hs, a2, b2⟩ := ih k (m + 1) (out ++ [x % 256]) j1 g1 (by omega) (by omega) (by simp [ho]) a1 b1
    exact ⟨r, j', h', e2, by omega, a2, b2⟩
theorem spec_l01Text_some (l : List Int) (hl : l.length ≤ 1048576) (j h n : Int) (h0 : 0 ≤ j) (h1 : j ≤ l.length) (k : Nat) (hk : 5003 ≤ k) : ∃ r j' h', spec_l01Text.f k l j h n = some (r, j', h') ∧ (r.size : Int) ≤ 5000 ∧ ((r.size : Int) ≤ n ∨ r.size = 0) ∧ 0 ≤ j' ∧ j' ≤ l.length := by
  obtain ⟨k, rfl⟩ : ∃ q, k = q + 1 := ⟨k - 1, by omega⟩
  have main : ∀ q : Int, q ≤ 5000 → ∃ r j' h', spec_l01Text.j0 (k + 1) q l j h = some (r, j', h') ∧ (r.size : Int) = max q 0 ∧ 0 ≤ j' ∧ j' ≤ l.length := by
    intro q hq
    obtain ⟨r, j', h', e, hs, a, b⟩ := spec_l01Text_l0 l hl q hq (max q 0).toNat k 0 [] j h (by omega) (by omega) rfl h0 h1
    refine ⟨r, j', h', ?_, hs, a, b⟩
    rw [spec_l01Text.j0]
    exact e
  unfold spec_l01Text.f
  by_cases hn : n > 5000
  · rw [if_pos hn]
    obtain ⟨r, j', h', e, hs, a, b⟩ := main 5000 (by omega)
    exact ⟨r, j', h', e, by omega, by omega, a, b⟩
  · rw [if_neg hn]
    obtain ⟨r, j', h', e, hs, a, b⟩ := main n (by omega)
    exact ⟨r, j', h', e, by omega, by omega, a, b⟩
theorem spec_DrawHex_some (l : List Int) (hl : l.length ≤ 1048576) (k : Nat) (hk : 21000 ≤ k) : ∃ r, spec_DrawHex.f k l = some r := by
  unfold spec_DrawHex.f
  obtain ⟨h, e0⟩ := spec_l01New_some l hl k (by omega)
  obtain ⟨b, j1, g1, e1, a1, b1⟩ := spec_l01Once_some l hl 0 h 60 (by omega) (by omega)
  rw [e0, Option.bind_some]
  simp only [e1, Option.bind_some]
  by_cases hb : b = true
  · obtain ⟨x, j2, g2, e2, hx, a2, b2⟩ := spec_l01Below_some l hl j1 g1 2 a1 b1
    have hx2 := hx.2.2 (by omega)
    have ew : wrap64 (20000 + x) = 20000 + x := by unfold wrap64; omega
    obtain ⟨t, e3, ht⟩ := spec_l01Long_some (20000 + x) 200 (by omega) (by omega) k (by omega)
    simp only [if_pos hb, e2, Option.bind_some, ew, e3]
    exact ⟨_, rfl⟩
  · obtain ⟨x, j2, g2, e2, hx, a2, b2⟩ := spec_l01Below_some l hl j1 g1 30 a1 b1
    obtain ⟨t, j3, g3, e3, _, _, _, _⟩ := spec_l01Text_some l hl j2 g2 x a2 b2 k (by omega)
    simp only [if_neg hb, e2, Option.bind_some, e3]
    exact ⟨_, rfl⟩
theorem impl_ShortText_eq (k : Nat) (hk : 12 ≤ k) (s : ByteArray) : impl_ShortText.f k s = some (if s.size > 20000 then (⟨#[]⟩, false) else (strOfNums (varNums s.size) ++ s, true)) := by
  unfold impl_ShortText.f
  by_cases h : s.size > 20000
  · rw [if_pos (by omega), if_pos h]
  · rw [if_neg (by omega), if_neg h, impl_varText_eq k hk s.size (by omega)]
    simp only [Option.bind_some]
    rw [if_pos (by rw [strOfNums_size]; have := varNums_len s.size (by omega); omega)]
theorem impl_ReadShort_eq (k : Nat) (hk : 40 ≤ k) (s : ByteArray) (hs : s.size ≤ 2000000) (a : Int) : impl_ReadShort.f k s a = some (readShortOf s a) := by
  unfold impl_ReadShort.f readShortOf
  rw [impl_ReadVar_eq k (by omega) s hs a]
  simp only [Option.bind_some]
  have hb := readVarOf_bounds s a
  generalize readVarOf s a = r at hb ⊢
  obtain ⟨n, next, ok⟩ := r
  cases ok
  · simp
  · simp only at hb ⊢
    have := hb trivial
    rw [if_pos trivial, show wrap64 ((s.size : Int) - next) = (s.size : Int) - next by unfold wrap64; omega, show wrap64 (next + n) = next + n by unfold wrap64; omega]
    by_cases h1 : n > 20000
    · rw [if_pos h1, if_pos (Or.inr (Or.inl h1))]
    by_cases h2 : n > (s.size : Int) - next
    · rw [if_neg h1, if_pos h2, if_pos (Or.inr (Or.inr h2))]
    rw [if_neg h1, if_neg h2, if_pos (by omega), if_pos (by omega), if_pos (by omega), if_neg (by rintro (q | q | q); simp at q; omega; omega)]
theorem rvGo_small (f m acc u i : Nat) (rest : List Nat) (h : m < 128) (ha : acc + m * u ≤ 1000000000) (hi : i = 0 ∨ m ≠ 0) : rvGo (f + 1) (varL m ++ rest) acc u i = some (acc + m * u, i + (varL m).length) := by
  rw [varL_small m h]
  show rvGo (f + 1) (m :: rest) acc u i = _
  rw [rvGo, if_neg (by omega), Nat.mod_eq_of_lt h, if_neg (by omega)]
  rfl
theorem rvGo_var : ∀ (f m acc u i : Nat) (rest : List Nat), m < 128 ^ (f + 1) → acc + m * u ≤ 1000000000 → (i = 0 ∨ m ≠ 0) → rvGo (f + 1) (varL m ++ rest) acc u i = some (acc + m * u, i + (varL m).length) := by
  intro f
  induction f with
  | zero => intro m acc u i rest hm ha hi; exact rvGo_small 0 m acc u i rest (by omega) ha hi
  | succ f ih =>
    intro m acc u i rest hm ha hi
    by_cases h : m < 128
    · exact rvGo_small (f + 1) m acc u i rest h ha hi
    · have e : acc + (m % 128 + 128) % 128 * u + m / 128 * (u * 128) = acc + m * u := by
        have e1 : m * u = (128 * (m / 128) + m % 128) * u := by rw [Nat.div_add_mod]
        have e2 : m / 128 * (u * 128) = 128 * (m / 128) * u := by rw [Nat.mul_comm u 128, ← Nat.mul_assoc, Nat.mul_comm (m / 128) 128]
        have e3 : (m % 128 + 128) % 128 = m % 128 := by omega
        rw [e1, e2, e3, Nat.add_mul]
        omega
      have hp : m / 128 < 128 ^ (f + 1) := by
        rw [Nat.pow_succ] at hm
        exact Nat.div_lt_of_lt_mul (by rw [Nat.mul_comm]; exact hm)
      rw [varL_great m (by omega)]
      show rvGo (f + 1 + 1) ((m % 128 + 128) :: (varL (m / 128) ++ rest)) acc u i = _
      rw [rvGo, if_pos (by omega), ih (m / 128) _ _ _ rest hp (by rw [e]; exact ha) (Or.inr (by omega)), e, List.length_cons, show i + 1 + (varL (m / 128)).length = i + ((varL (m / 128)).length + 1) by omega]
theorem readVar_var (pre post : List Nat) (n : Nat) (hn : n ≤ 1000000000) (S : ByteArray) (h : byteNs S = pre ++ (varL n ++ post)) : readVarOf S (pre.length : Int) = ((n : Int), ((pre.length + (varL n).length : Nat) : Int), true) := by
  have hs : S.size = pre.length + ((varL n).length + post.length) := by rw [← byteNs_length, h, List.length_append, List.length_append]
  have hv := rvGo_var 4 n 0 1 0 post (by omega) (by omega) (Or.inl rfl)
  unfold readVarOf
  rw [if_neg (by omega), Int.toNat_natCast, h, List.drop_left' rfl, hv]
  simp [rvFin]
def hexN (d : Nat) : Nat := if d < 10 then 48 + d else 87 + d
def hexL : List Nat → List Nat
  | [] => []
  | b :: l => hexN (b / 16) :: hexN (b % 16) :: hexL l
theorem hexL_len : ∀ l : List Nat, (hexL l).length = 2 * l.length
  | [] => rfl
  | b :: l => by rw [hexL, List.length_cons, List.length_cons, hexL_len l, List.length_cons]; omega
theorem hexN_lt (d : Nat) (h : d < 16) : hexN d < 256 := by
  unfold hexN
  split <;> omega
theorem hexL_lt : ∀ l : List Nat, (∀ b ∈ l, b < 256) → ∀ x ∈ hexL l, x < 256
  | [], _, x, hx => by simp [hexL] at hx
  | b :: l, h, x, hx => by
    have hb := h b (by simp)
    simp only [hexL, List.mem_cons] at hx
    rcases hx with rfl | rfl | hx
    · exact hexN_lt _ (by omega)
    · exact hexN_lt _ (by omega)
    · exact hexL_lt l (fun y hy => h y (by simp [hy])) x hx
def hexD : ByteArray := ⟨#[48, 49, 50, 51, 52, 53, 54, 55, 56, 57, 97, 98, 99, 100, 101, 102]⟩
theorem hexD_at (d : Nat) (h : d < 16) : bt hexD (d : Int) = ((hexN d : Nat) : Int) := by
  have e : ∀ i : Fin 16, bt hexD ((i.val : Nat) : Int) = ((hexN i.val : Nat) : Int) := by decide
  exact e ⟨d, h⟩
theorem and_15 (a : Int) (h0 : 0 ≤ a) (h1 : a ≤ 255) : Go.bits .and .u8 a 15 = a % 16 := by
  have h := bits_mask .u8 8 (by decide) (fun m h0 h1 => by simp [IntKind.wrap, IntKind.bits, IntKind.signed]; omega) 4 (by omega) a (by omega) (by omega)
  rw [show ((2 : Int) ^ 4 - 1) = 15 from rfl] at h
  rw [h]
  rfl
theorem hexD_all : ((List.range 16).all fun d => decide (Lib.indexByte hexD.data.toList (Nat.toUInt8 (hexN d)) = (d : Int))) = true := by kernel_rfl
theorem hexD_of (d : Nat) (h : d < 16) : strings_IndexByte.f hexD ((hexN d : Nat) : Int) = some (d : Int) := by
  have e := List.all_eq_true.1 hexD_all d (List.mem_range.2 h)
  unfold strings_IndexByte.f
  rw [Int.toNat_natCast, of_decide_eq_true e]
theorem or_all : ((List.range 256).all fun n => decide (Go.bits .or .i64 (wrap64 (((n / 16 : Nat) : Int) * 16)) ((n % 16 : Nat) : Int) = (n : Int))) = true := by kernel_rfl
theorem or_nib (b : Nat) (h : b < 256) : Go.bits .or .i64 (wrap64 (((b / 16 : Nat) : Int) * 16)) ((b % 16 : Nat) : Int) = (b : Int) :=
  of_decide_eq_true (List.all_eq_true.1 or_all b (List.mem_range.2 h))
theorem hex_loop (s : ByteArray) (hs : s.size ≤ 20000) : ∀ (d k i : Nat) (L : List Int), d < k → i + d = s.size → L.length = 2 * i → impl_Hex.l0 k s hexD L (i : Int) = some (strOfNums (L ++ (hexL ((byteNs s).drop i)).map fun (b : Nat) => (b : Int)), true) := by
  intro d
  induction d with
  | zero =>
    intro k i L hk hi hL
    obtain ⟨k, rfl⟩ : ∃ m, k = m + 1 := ⟨k - 1, by omega⟩
    simp only [impl_Hex.l0]
    rw [if_neg (by omega), List.drop_eq_nil_of_le (by rw [byteNs_length]; omega)]
    simp [hexL]
  | succ d ih =>
    intro k i L hk hi hL
    obtain ⟨k, rfl⟩ : ∃ m, k = m + 1 := ⟨k - 1, by omega⟩
    obtain ⟨hb, hb2⟩ := bt_nat s ((i : Nat) : Int)
    rw [byteNs_drop s i (by omega)]
    simp only [impl_Hex.l0]
    rw [← hb]
    generalize (bt s (i : Int)).toNat = b at hb2 ⊢
    have e1 : (b : Int) / 16 = ((b / 16 : Nat) : Int) := by omega
    have e2 : (b : Int) % 16 = ((b % 16 : Nat) : Int) := by omega
    have hsz : (hexD.size : Int) = 16 := rfl
    rw [and_15 _ (by omega) (by omega), e1, e2, hexD_at _ (by omega), hexD_at _ (by omega), hsz]
    simp only [Option.bind_some]
    rw [if_pos (by omega), if_pos (by omega), if_pos (by omega), if_pos (by omega), if_pos (by omega), if_pos (by omega), if_pos (by simp only [List.length_cons, List.length_nil]; omega), wrap_nat' i (by omega), ih k (i + 1) _ (by omega) (by omega) (by rw [List.length_append]; simp only [List.length_cons, List.length_nil]; omega), hexL]
    simp
theorem wrap_two (i : Nat) (h : i ≤ 9000000000000000000) : wrap64 ((i : Int) + 2) = ((i + 2 : Nat) : Int) := by
  unfold wrap64
  omega
theorem half_size (S : ByteArray) (t : Nat) (h : S.size = 2 * t) (ht : t ≤ 300) : wrap64 ((S.size : Int) / 2) = (t : Int) := by
  rw [h]
  unfold wrap64
  omega
theorem unhex_loop (s : ByteArray) (hs : s.size ≤ 40000) : ∀ (m : List Nat) (k i : Nat) (L : List Int), m.length < k → (byteNs s).drop i = hexL m → i ≤ s.size → (∀ b ∈ m, b < 256) → L.length ≤ i → impl_Unhex.l0 k s L (i : Int) = some (strOfNums (L ++ m.map fun (b : Nat) => (b : Int)), true) := by
  intro m
  induction m with
  | nil =>
    intro k i L hk hd hi hm hL
    obtain ⟨k, rfl⟩ : ∃ q, k = q + 1 := ⟨k - 1, by omega⟩
    have hl := congrArg List.length hd
    rw [List.length_drop, byteNs_length, hexL, List.length_nil] at hl
    rw [impl_Unhex.l0, if_neg (by omega)]
    simp
  | cons b m ih =>
    intro k i L hk hd hi hm hL
    obtain ⟨k, rfl⟩ : ∃ q, k = q + 1 := ⟨k - 1, by omega⟩
    have hb := hm b (by simp)
    have hl := congrArg List.length hd
    rw [List.length_drop, byteNs_length, hexL, List.length_cons, List.length_cons] at hl
    simp only [List.length_cons] at hk
    have q1 : (i : Int) < (s.size : Int) := by omega
    have q2 : (0 : Int) ≤ (i : Int) := by omega
    have q3 : (0 : Int) ≤ ((i + 1 : Nat) : Int) := by omega
    have q4 : ((i + 1 : Nat) : Int) < (s.size : Int) := by omega
    have q5 : ¬ ((b / 16 : Nat) : Int) < 0 := by omega
    have q6 : ¬ ((b % 16 : Nat) : Int) < 0 := by omega
    have q7 : L.length < 140737488355328 := by omega
    have q8 : (b : Int) % 256 = (b : Int) := by omega
    have q9 : m.length < k := by omega
    have qa : i + 2 ≤ s.size := by omega
    have qb : (L ++ [(b : Int)]).length ≤ i + 2 := by rw [List.length_append, List.length_cons, List.length_nil]; omega
    have p1 : i < s.size := by omega
    have p2 : i + 1 < s.size := by omega
    have p3 : i ≤ 9000000000000000000 := by omega
    have p4 : b / 16 < 16 := by omega
    have p5 : b % 16 < 16 := by omega
    rw [byteNs_drop s i p1, hexL, List.cons.injEq] at hd
    obtain ⟨h1, hd⟩ := hd
    rw [byteNs_drop s (i + 1) p2, List.cons.injEq] at hd
    obtain ⟨h2, hd⟩ := hd
    have b1 := (bt_nat s ((i : Nat) : Int)).1
    have b2 := (bt_nat s ((i + 1 : Nat) : Int)).1
    rw [h1] at b1
    rw [h2] at b2
    have e1 : wrap64 ((i : Int) + 1) = ((i + 1 : Nat) : Int) := wrap_nat' i p3
    have e2 : wrap64 ((i : Int) + 2) = ((i + 2 : Nat) : Int) := wrap_two i p3
    have v1 := hexD_of (b / 16) p4
    have v2 := hexD_of (b % 16) p5
    unfold hexD at v1 v2
    rw [impl_Unhex.l0, if_pos q1, if_pos q2, e1, ← b1, ← b2, v1, v2]
    simp only [Option.bind_some]
    rw [if_pos q3, if_pos q4, if_neg q5, if_neg q6, if_pos q7, or_nib b hb, e2, q8, ih k (i + 2) _ q9 hd qa (fun x hx => hm x (by simp [hx])) qb]
    simp
theorem str_byteNs (s : ByteArray) : strOfNums ((byteNs s).map fun (b : Nat) => (b : Int)) = s := byteNs_inj (byteNs_str _ (byteNs_lt s))
theorem hex_of (k : Nat) (hk : 400 ≤ k) (t : ByteArray) (ht : t.size ≤ 300) : impl_Hex.f k t = some (strOfNums ((hexL (byteNs t)).map fun (b : Nat) => (b : Int)), true) := by
  unfold impl_Hex.f
  have ew : wrap64 (2 * (t.size : Int)) = 2 * (t.size : Int) := by unfold wrap64; omega
  have h := hex_loop t (by omega) t.size k 0 [] (by omega) (by omega) rfl
  rw [if_neg (by omega), ew, if_pos (by omega), if_pos (by omega)]
  rw [List.nil_append, List.drop_zero] at h
  exact h
theorem unhex_of (k : Nat) (hk : 400 ≤ k) (t : ByteArray) (ht : t.size ≤ 300) : impl_Unhex.f k (strOfNums ((hexL (byteNs t)).map fun (b : Nat) => (b : Int))) = some (t, true) := by
  obtain ⟨k, rfl⟩ : ∃ q, k = q + 1 := ⟨k - 1, by omega⟩
  have hsz : (strOfNums ((hexL (byteNs t)).map fun (b : Nat) => (b : Int))).size = 2 * t.size := by rw [strOfNums_size, List.length_map, hexL_len, byteNs_length]
  have hby := byteNs_str (hexL (byteNs t)) (hexL_lt _ (byteNs_lt t))
  generalize strOfNums ((hexL (byteNs t)).map fun (b : Nat) => (b : Int)) = S at hsz hby ⊢
  have h := unhex_loop S (by omega) (byteNs t) k 0 [] (by rw [byteNs_length]; omega) (by rw [List.drop_zero]; exact hby) (by omega) (byteNs_lt t) (by simp)
  rw [List.nil_append, str_byteNs] at h
  have ew := half_size S t.size hsz ht
  unfold impl_Unhex.f
  rw [if_pos (by omega), impl_Unhex.j0, if_neg (by simp only [decide_eq_true_eq]; omega), ew, if_pos (by omega), if_pos (by omega)]
  exact h
theorem short_of (k : Nat) (hk : 40 ≤ k) (t : ByteArray) (ht : t.size ≤ 300) : impl_ReadShort.f k (strOfNums (varNums t.size) ++ t) 0 = some (t, ((strOfNums (varNums t.size) ++ t).size : Int), true) := by
  have hv := varNums_len t.size (by omega)
  have hvl : (varL t.size).length = (varNums t.size).length := by rw [varNums, List.length_map]
  have hsz : (strOfNums (varNums t.size) ++ t).size = (varL t.size).length + t.size := by rw [ByteArray.size_append, strOfNums_size, hvl]
  have hby : byteNs (strOfNums (varNums t.size) ++ t) = ([] : List Nat) ++ (varL t.size ++ byteNs t) := by rw [byteNs_append, byteNs_var, List.nil_append]
  have hr := readVar_var [] (byteNs t) t.size (by omega) _ hby
  rw [impl_ReadShort_eq k hk _ (by omega)]
  unfold readShortOf
  have z : ((([] : List Nat).length : Nat) : Int) = 0 := rfl
  rw [z] at hr
  rw [hr]
  simp only [List.length_nil, Nat.zero_add]
  rw [if_neg (by simp only [Bool.true_eq_false, false_or]; omega)]
  have he : (strOfNums (varNums t.size) ++ t).extract ((varL t.size).length : Int).toNat (((varL t.size).length : Int) + (t.size : Int)).toNat = t := by
    apply byteNs_inj
    rw [byteNs_extract, hby, List.nil_append, show ((varL t.size).length : Int).toNat = (varL t.size).length by omega, List.drop_left' rfl, show (((varL t.size).length : Int) + (t.size : Int)).toNat - (varL t.size).length = t.size by omega, List.take_of_length_le (by rw [byteNs_length]; exact Nat.le_refl _)]
  rw [he, hsz]
  simp
theorem dec_len : ∀ (d u : Nat), u < 10 ^ (d + 1) → (Lib.decDigits u).length ≤ d + 1 := by
  intro d
  induction d with
  | zero => intro u hu; rw [Lib.decDigits_one (by omega)]; simp
  | succ d ih =>
    intro u hu
    rw [Lib.decDigits]
    by_cases h : u < 10
    · rw [dif_pos h]; simp
    · rw [dif_neg h, List.length_append]
      have := ih (u / 10) (by rw [Nat.pow_succ] at hu; exact Nat.div_lt_of_lt_mul (by rw [Nat.mul_comm]; exact hu))
      simp only [List.length_cons, List.length_nil]
      omega
theorem dec_facts : ∀ (d u : Nat), u ≤ d → ((∀ b ∈ (Lib.decDigits u).map (·.toNat), 48 ≤ b ∧ b ≤ 57) ∧ ((Lib.decDigits u).map (·.toNat)).foldl (fun a b => a * 10 + (b - 48)) 0 = u) ∧ (Lib.decDigits u).length ≠ 0 := by
  intro d
  induction d with
  | zero =>
    intro u hu
    obtain rfl : u = 0 := by omega
    rw [Lib.decDigits_one (by omega)]
    decide
  | succ d ih =>
    intro u hu
    have hd : ∀ e : Nat, e < 10 → (UInt8.ofNat (48 + e)).toNat = 48 + e := fun e he => by
      have h : ∀ i : Fin 10, (UInt8.ofNat (48 + i.val)).toNat = 48 + i.val := by decide
      exact h ⟨e, he⟩
    rw [Lib.decDigits]
    by_cases h : u < 10
    · rw [dif_pos h]
      simp only [List.map_cons, List.map_nil, hd u h, List.mem_singleton, List.foldl_cons, List.foldl_nil]
      exact ⟨⟨fun b hb => by omega, by omega⟩, by simp⟩
    · rw [dif_neg h]
      obtain ⟨⟨h1, h2⟩, _⟩ := ih (u / 10) (by omega)
      rw [List.map_append, List.foldl_append, h2]
      simp only [List.map_cons, List.map_nil, hd (u % 10) (by omega), List.foldl_cons, List.foldl_nil, List.mem_append, List.mem_singleton]
      refine ⟨⟨fun b hb => ?_, by omega⟩, by simp⟩
      rcases hb with hb | rfl
      · exact h1 b hb
      · omega
theorem dec_loop (s : ByteArray) (hs : s.size ≤ 10) (u : Nat) (hu : u ≤ 1000000000) (hd : impl_Decimal.f (u : Int) = some s) : ∀ (l : List Nat) (k i acc : Nat), (byteNs s).drop i = l → (∀ b ∈ l, 48 ≤ b ∧ b ≤ 57) → acc < 10 ^ i → i + l.length = s.size → l.length < k → l.foldl (fun a b => a * 10 + (b - 48)) acc = u → impl_ReadDecimal.l0 k s (acc : Int) (i : Int) = some ((u : Int), true) := by
  intro l
  induction l with
  | nil =>
    intro k i acc _ _ _ hl hk hf
    obtain ⟨k, rfl⟩ : ∃ q, k = q + 1 := ⟨k - 1, by omega⟩
    obtain rfl : acc = u := hf
    rw [List.length_nil] at hl
    rw [impl_ReadDecimal.l0, if_neg (by omega), if_neg (by omega), hd, Option.bind_some, if_pos rfl]
  | cons b l ih =>
    intro k i acc hdr hb ha hl hk hf
    obtain ⟨k, rfl⟩ : ∃ q, k = q + 1 := ⟨k - 1, by omega⟩
    rw [List.length_cons] at hl hk
    have hbb := hb b (by simp)
    rw [byteNs_drop s i (by omega), List.cons.injEq] at hdr
    obtain ⟨h1, hdr⟩ := hdr
    have b1 := (bt_nat s ((i : Nat) : Int)).1
    rw [h1] at b1
    have hpow : 10 ^ (i + 1) ≤ 10 ^ 10 := Nat.pow_le_pow_right (by decide) (by omega)
    have hps : 10 ^ (i + 1) = 10 ^ i * 10 := Nat.pow_succ _ _
    have hP : (10 : Nat) ^ 10 = 10000000000 := rfl
    have hacc : acc * 10 + (b - 48) < 10 ^ (i + 1) := by
      rw [hps]
      generalize (10 : Nat) ^ i = P at ha ⊢
      omega
    rw [impl_ReadDecimal.l0, if_pos (by omega), if_pos (by omega), ← b1, if_neg (by omega), if_neg (by omega)]
    have hbig : acc * 10 + (b - 48) < 10000000000 := by rw [hP] at hpow; exact Nat.lt_of_lt_of_le hacc hpow
    have e1 : wrap64 (wrap64 ((acc : Int) * 10) + (((b : Int) - 48) % 256)) = ((acc * 10 + (b - 48) : Nat) : Int) := by
      clear hpow hps hP hacc ha
      have e2 : wrap64 ((acc : Int) * 10) = (acc : Int) * 10 := by unfold wrap64; omega
      rw [e2]
      unfold wrap64; omega
    rw [e1, wrap_nat' i (by omega)]
    exact ih k (i + 1) _ hdr (fun x hx => hb x (by simp [hx])) hacc (by omega) (by omega) hf
theorem readDec_of (k : Nat) (hk : 60 ≤ k) (u : Nat) (hu : u ≤ 1000000000) : impl_ReadDecimal.f k ⟨(Lib.itoa (u : Int)).toArray⟩ = some ((u : Int), true) := by
  obtain ⟨k, rfl⟩ : ∃ q, k = q + 1 := ⟨k - 1, by omega⟩
  have hd := impl_Decimal_eq (u : Int) (by omega) (by omega)
  have hi : Lib.itoa (u : Int) = Lib.decDigits u := by
    unfold Lib.itoa
    rw [if_neg (by omega), Int.toNat_natCast]
  rw [hi] at hd ⊢
  have hlen := dec_len 9 u (by omega)
  obtain ⟨⟨h1, h2⟩, h3⟩ := dec_facts u u (Nat.le_refl _)
  have hsz : (⟨(Lib.decDigits u).toArray⟩ : ByteArray).size = (Lib.decDigits u).length := by
    show (Lib.decDigits u).toArray.size = _
    simp
  have hby : byteNs (⟨(Lib.decDigits u).toArray⟩ : ByteArray) = (Lib.decDigits u).map (·.toNat) := by
    unfold byteNs
    simp
  have h := dec_loop _ (by rw [hsz]; exact hlen) u hu hd _ k 0 0 (by rw [List.drop_zero, hby]) h1 (by decide) (by rw [List.length_map, hsz]; omega) (by rw [List.length_map]; omega) h2
  unfold impl_ReadDecimal.f
  rw [if_neg (by rw [hsz]; omega), impl_ReadDecimal.j0, if_neg (by rw [hsz]; simp only [decide_eq_true_eq]; omega)]
  exact h
theorem j2_true (k : Nat) (hk : 500 ≤ k) (n : Int) (s : ByteArray) (hs : s.size ≤ 10) (t : ByteArray) (ht : t.size ≤ 300) : laws_FnNumbers.j2 k n s true n ((s.size : Int) + 1) true n true t = some true := by
  obtain ⟨k, rfl⟩ : ∃ q, k = q + 1 := ⟨k - 1, by omega⟩
  have ew : wrap64 ((s.size : Int) + 1) = (s.size : Int) + 1 := by unfold wrap64; omega
  rw [laws_FnNumbers.j2, impl_ShortText_eq k (by omega), if_neg (by omega)]
  simp only [Option.bind_some, short_of k (by omega) t ht, hex_of k (by omega) t ht, unhex_of k (by omega) t ht, ew, if_true, beq_self_eq_true]
theorem j1_true (k : Nat) (hk : 22000 ≤ k) (l : List Int) (hl : l.length ≤ 1048576) (n : Nat) (hn : n ≤ 1000000000) : laws_FnNumbers.j1 k l (n : Int) = some true := by
  obtain ⟨k, rfl⟩ : ∃ q, k = q + 1 := ⟨k - 1, by omega⟩
  have hv := varNums_len n hn
  have hvl : (varL n).length = (varNums n).length := by rw [varNums, List.length_map]
  have hsz : (strOfNums (varNums n)).size = (varL n).length := by rw [strOfNums_size, hvl]
  have hvt : impl_VarText.f k (n : Int) = some (strOfNums (varNums n), true) := by
    unfold impl_VarText.f
    rw [if_neg (by omega), if_neg (by omega), impl_varText_eq k (by omega) n (by omega)]
    rfl
  have x1 : (⟨#[120]⟩ : ByteArray).size = 1 := rfl
  have y1 : (⟨#[121]⟩ : ByteArray).size = 1 := rfl
  have hby : byteNs (((⟨#[120]⟩ : ByteArray) ++ strOfNums (varNums n)) ++ (⟨#[121]⟩ : ByteArray)) = [120] ++ (varL n ++ [121]) := by
    rw [byteNs_append, byteNs_append, byteNs_var, List.append_assoc]
    rfl
  have hr := readVar_var [120] [121] n hn _ hby
  have z : ((([120] : List Nat).length : Nat) : Int) = 1 := rfl
  rw [z] at hr
  have hread : impl_ReadVar.f k (((⟨#[120]⟩ : ByteArray) ++ strOfNums (varNums n)) ++ (⟨#[121]⟩ : ByteArray)) 1 = some ((n : Int), ((strOfNums (varNums n)).size : Int) + 1, true) := by
    rw [impl_ReadVar_eq k (by omega) _ (by rw [ByteArray.size_append, ByteArray.size_append, x1, y1]; omega), hr, hsz]
    simp only [List.length_cons, List.length_nil, Option.some.injEq, Prod.mk.injEq, true_and, and_true]
    omega
  obtain ⟨t, et⟩ := spec_DrawHex_some l hl k (by omega)
  rw [laws_FnNumbers.j1, hvt, Option.bind_some, if_pos (by show 1 + (strOfNums (varNums n)).size ≤ _; omega), if_pos (by show ((⟨#[120]⟩ : ByteArray) ++ strOfNums (varNums n)).size + 1 ≤ _; rw [ByteArray.size_append, x1]; omega)]
  simp only [hread, Option.bind_some, impl_Decimal_eq (n : Int) (by omega) (by omega), readDec_of k (by omega) n hn, et]
  by_cases h : (t.size : Int) > 300
  · rw [if_pos h]
    exact j2_true k (by omega) _ _ (by omega) _ (by show 3 ≤ 300; omega)
  · rw [if_neg h]
    exact j2_true k (by omega) _ _ (by omega) _ (by omega)
theorem j0_true (k : Nat) (hk : 23000 ≤ k) (l : List Int) (hl : l.length ≤ 1048576) (n : Int) (b : Bool) (hb : b = false → 0 ≤ n ∧ n ≤ 1000000000) : laws_FnNumbers.j0 k l n b = some true := by
  obtain ⟨k, rfl⟩ : ∃ q, k = q + 1 := ⟨k - 1, by omega⟩
  rw [laws_FnNumbers.j0]
  cases b with
  | true =>
    rw [if_pos rfl]
    exact j1_true k (by omega) l hl 12345 (by omega)
  | false =>
    rw [if_neg (by decide)]
    obtain ⟨h0, h1⟩ := hb rfl
    obtain ⟨m, rfl⟩ := Int.eq_ofNat_of_zero_le h0
    exact j1_true k (by omega) l hl m (by omega)
theorem FnNumbers : laws_FnNumbers.Pure := by
  intro l _ _ _
  refine ⟨30000, ?_⟩
  unfold laws_FnNumbers.f laws_big.f
  rw [Option.bind_some]
  by_cases hb : (l.length : Int) > 1048576
  · rw [if_pos (decide_eq_true hb)]
  rw [if_neg (by simpa using hb)]
  obtain ⟨n, e⟩ := spec_DrawVarText_some l (by omega) 30000 (by omega)
  rw [e, Option.bind_some]
  by_cases h : n < 0
  · rw [if_pos h]
    exact j0_true 30000 (by omega) l (by omega) n true (fun q => by simp at q)
  · rw [if_neg h]
    exact j0_true 30000 (by omega) l (by omega) n _ (fun q => ⟨by omega, by have := of_decide_eq_false q; omega⟩)

end Go.Proofs.YtfigfpfgeoadbaaDoor.Pure
