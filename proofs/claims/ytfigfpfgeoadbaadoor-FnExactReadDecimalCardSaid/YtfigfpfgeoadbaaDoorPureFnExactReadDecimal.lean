/- Proved: ReadDecimal of the program and of the reference agree at every text of at most 2^20 bytes (the law asks no more). Conditions: none. -/
import Derived.Test.YtfigfpfgeoadbaaDoorQFnExactReadDecimalx2
import Derived.Test.YtfigfpfgeoadbaaDoorMod
import Derived.Test.YtfigfpfgeoadbaaDoorItoa
import Derived.Test.YtfigfpfgeoadbaaDoorRead
set_option linter.unusedVariables false
set_option linter.unusedSimpArgs false
namespace Go.Proofs.YtfigfpfgeoadbaaDoor.Pure
open Go.RowKit Go.Proofs.YtfigfpfgeoadbaaDoor.PFnExactReadDecimal Go.Proofs.YtfigfpfgeoadbaaDoorW.PrintWords Go.Proofs.YtfigfpfgeoadbaaDoorW.PrintLast Go.Proofs.YtfigfpfgeoadbaaDoorW.PrintMore
open Go.Proofs.YtfigfpfgeoadbaaDoor.M

def figOf (a : Int) : Int := if a < 10 then 48 + a else 87 + a
theorem spec_l01Figure_eq (a : Int) (h0 : 0 ≤ a) (h1 : a < 16) : spec_l01Figure.f a = some (figOf a) := by
  have w : ∀ n : Int, -1000 ≤ n → n < 1000000 → wrap64 n = n := by
    intro n q1 q2
    unfold wrap64
    omega
  unfold spec_l01Figure.f figOf
  by_cases h : a < 10
  · rw [if_pos h, if_pos h, w _ (by omega) (by omega)]
    congr 1
    omega
  · rw [if_neg h, if_neg h, w (97 + a) (by omega) (by omega), w _ (by omega) (by omega)]
    congr 1
    omega
def dec0 (m : Nat) : List UInt8 := if m = 0 then [] else Lib.decDigits m
theorem dec0_step (m : Nat) (h : m ≠ 0) : dec0 m = dec0 (m / 10) ++ [UInt8.ofNat (48 + m % 10)] := by
  unfold dec0
  rw [if_neg h, Lib.decDigits]
  by_cases c : m < 10
  · rw [dif_pos c, if_pos (by omega), List.nil_append, Nat.mod_eq_of_lt c]
  · rw [dif_neg c, if_neg (by omega)]
theorem fig_str (d : Nat) (h : d < 10) : strOfNums [figOf (d : Int)] = (⟨#[UInt8.ofNat (48 + d)]⟩ : ByteArray) := by
  have e : ∀ i : Fin 10, strOfNums [figOf ((i.val : Nat) : Int)] = (⟨#[UInt8.ofNat (48 + i.val)]⟩ : ByteArray) := by decide
  exact e ⟨d, h⟩
theorem cons_str (c : UInt8) (l : List UInt8) : (⟨#[c]⟩ : ByteArray) ++ (⟨l.toArray⟩ : ByteArray) = ⟨(c :: l).toArray⟩ := by
  apply ByteArray.ext
  simp
theorem str_size (l : List UInt8) : (⟨l.toArray⟩ : ByteArray).size = l.length := by
  show l.toArray.size = l.length
  simp
theorem spec_Decimal_l0 (b : Bool) : ∀ (f k : Nat) (n : Int) (l : List UInt8), n.natAbs < 10 ^ f → f < k → f + l.length ≤ 100 → n.natAbs ≤ 9223372036854775808 →
    spec_Decimal.l0 (k + 1) n b ⟨l.toArray⟩ = some ⟨((if b = true then [45] else []) ++ dec0 n.natAbs ++ l).toArray⟩ := by
  intro f
  induction f with
  | zero =>
    intro k n l hn hk hl _
    have h0 : n = 0 := by simp at hn; exact hn
    subst h0
    simp only [spec_Decimal.l0]
    rw [if_pos trivial]
    cases b
    · rw [if_neg (by decide)]
      simp [dec0]
    · rw [if_pos rfl, if_pos (by rw [str_size]; omega), cons_str]
      simp [dec0]
  | succ f ih =>
    intro k n l hn hk hl hbig
    obtain ⟨k, rfl⟩ : ∃ m, k = m + 1 := ⟨k - 1, by omega⟩
    by_cases h0 : n = 0
    · exact ih (k + 1) n l (by subst h0; exact Nat.pow_pos (by decide)) (by omega) (by omega) hbig
    have hp : 10 ^ (f + 1) = 10 * 10 ^ f := by rw [Nat.pow_succ, Nat.mul_comm]
    have hm : n.natAbs ≠ 0 := by omega
    have hdiv : (Int.tdiv n 10).natAbs = n.natAbs / 10 := by rw [Int.natAbs_tdiv]; rfl
    have hmod : (Int.tmod n 10).natAbs = n.natAbs % 10 := by rw [Int.natAbs_tmod]; rfl
    have hw : wrap64 (Int.tdiv n 10) = Int.tdiv n 10 := by
      generalize Int.tdiv n 10 = q at hdiv
      unfold wrap64; omega
    have hnext := ih k (Int.tdiv n 10) (UInt8.ofNat (48 + n.natAbs % 10) :: l) (by rw [hdiv]; omega) (by omega) (by rw [List.length_cons]; omega) (by rw [hdiv]; omega)
    have hstr := fig_str (n.natAbs % 10) (by omega)
    have hfig := spec_l01Figure_eq ((n.natAbs % 10 : Nat) : Int) (by omega) (by omega)
    have hres : ((if b = true then [45] else []) ++ dec0 (n.natAbs / 10) ++ UInt8.ofNat (48 + n.natAbs % 10) :: l) = ((if b = true then [45] else []) ++ dec0 n.natAbs ++ l) := by
      rw [dec0_step n.natAbs hm]
      simp
    rw [hdiv, hres] at hnext
    rw [spec_Decimal.l0, if_neg h0]
    by_cases c : Int.tmod n 10 < 0
    · have e1 : wrap64 (-(Int.tmod n 10)) = ((n.natAbs % 10 : Nat) : Int) := by
        generalize Int.tmod n 10 = q at hmod c
        unfold wrap64; omega
      rw [if_pos c, e1, hfig]
      simp only [Option.bind_some]
      rw [hstr, if_pos (by have q1 := str_size l; have q2 : (⟨#[UInt8.ofNat (48 + n.natAbs % 10)]⟩ : ByteArray).size = 1 := rfl; omega), cons_str, hw]
      exact hnext
    · have e1 : Int.tmod n 10 = ((n.natAbs % 10 : Nat) : Int) := by omega
      rw [if_neg c, e1, hfig]
      simp only [Option.bind_some]
      rw [hstr, if_pos (by have q1 := str_size l; have q2 : (⟨#[UInt8.ofNat (48 + n.natAbs % 10)]⟩ : ByteArray).size = 1 := rfl; omega), cons_str, hw]
      exact hnext
theorem spec_Decimal_eq (k : Nat) (hk : 25 ≤ k) (n : Int) (h0 : -9223372036854775808 ≤ n) (h1 : n ≤ 9223372036854775807) : spec_Decimal.f k n = some ⟨(Lib.itoa n).toArray⟩ := by
  obtain ⟨k, rfl⟩ : ∃ m, k = m + 1 := ⟨k - 1, by omega⟩
  unfold spec_Decimal.f
  by_cases hz : n = 0
  · subst hz
    rw [if_pos rfl, show Lib.itoa 0 = Lib.decDigits 0 from rfl, Lib.decDigits_one (by decide)]
    rfl
  · rw [if_neg hz]
    have h := spec_Decimal_l0 (decide (n < 0)) 19 k n [] (by have : (10 : Nat) ^ 19 = 10000000000000000000 := rfl; omega) (by omega) (by simp) (by omega)
    have e : (⟨([] : List UInt8).toArray⟩ : ByteArray) = (⟨#[]⟩ : ByteArray) := rfl
    rw [e] at h
    rw [h]
    unfold Lib.itoa dec0
    rw [if_neg (c := n.natAbs = 0) (by omega), List.append_nil]
    by_cases c : n < 0
    · rw [if_pos c, if_pos (decide_eq_true c)]
      rfl
    · rw [if_neg c, if_neg (by simpa using c), show n.natAbs = n.toNat by omega]
      rfl
theorem impl_Decimal_eq (n : Int) (h0 : -9223372036854775808 ≤ n) (h1 : n ≤ 9223372036854775807) : impl_Decimal.f n = some ⟨(Lib.itoa n).toArray⟩ := by
  unfold impl_Decimal.f strconv_Itoa.f
  rw [if_pos ⟨h0, h1⟩]
  rfl
theorem toList_len (s : ByteArray) : s.toList.length = s.size := by
  rw [toList_eq, Array.length_toList]
  rfl
theorem readDec_same (s : ByteArray) (hs : s.size ≤ 10) : ∀ (d k i : Nat) (n : Int), d + 30 < k → i + d = s.size → 0 ≤ n → n < 10 ^ i → ∃ r, spec_ReadDecimal.l0 k s n (i : Int) = some r ∧ impl_ReadDecimal.l0 k s n (i : Int) = some r := by
  intro d
  induction d with
  | zero =>
    intro k i n hk hi h0 h1
    obtain ⟨k, rfl⟩ : ∃ m, k = m + 1 := ⟨k - 1, by omega⟩
    have hpow : (10 : Int) ^ i ≤ 10 ^ 10 := by
      have : (10 : Nat) ^ i ≤ 10 ^ 10 := Nat.pow_le_pow_right (by decide) (by omega)
      exact_mod_cast this
    have hP : (10 : Int) ^ 10 = 10000000000 := rfl
    rw [spec_ReadDecimal.l0, impl_ReadDecimal.l0, if_neg (c := (i : Int) < (s.size : Int)) (by omega), if_neg (c := (i : Int) < (s.size : Int)) (by omega)]
    by_cases c : n > 1000000000
    · rw [if_pos c, if_pos c]
      exact ⟨_, rfl, rfl⟩
    · rw [if_neg c, if_neg c, spec_Decimal_eq k (by omega) n (by omega) (by omega), impl_Decimal_eq n (by omega) (by omega)]
      simp only [Option.bind_some]
      by_cases q : (⟨(Lib.itoa n).toArray⟩ : ByteArray).toList = s.toList
      · rw [if_pos q]
        exact ⟨_, rfl, rfl⟩
      · rw [if_neg q]
        exact ⟨_, rfl, rfl⟩
  | succ d ih =>
    intro k i n hk hi h0 h1
    obtain ⟨k, rfl⟩ : ∃ m, k = m + 1 := ⟨k - 1, by omega⟩
    have hpow : (10 : Int) ^ i ≤ 10 ^ 10 := by
      have : (10 : Nat) ^ i ≤ 10 ^ 10 := Nat.pow_le_pow_right (by decide) (by omega)
      exact_mod_cast this
    have hps : (10 : Int) ^ (i + 1) = 10 * 10 ^ i := by rw [Int.pow_succ, Int.mul_comm]
    have hb := bt_range s (i : Int)
    rw [spec_ReadDecimal.l0, impl_ReadDecimal.l0, if_pos (c := (i : Int) < (s.size : Int)) (by omega), if_pos (c := 0 ≤ (i : Int)) (by omega), if_pos (c := (i : Int) < (s.size : Int)) (by omega), if_pos (c := 0 ≤ (i : Int)) (by omega)]
    generalize bt s (i : Int) = b at hb ⊢
    by_cases c1 : b < 48
    · rw [if_pos c1, if_pos c1]
      exact ⟨_, rfl, rfl⟩
    rw [if_neg c1, if_neg c1]
    by_cases c2 : b > 57
    · rw [if_pos c2, if_pos c2]
      exact ⟨_, rfl, rfl⟩
    rw [if_neg c2, if_neg c2]
    generalize (10 : Int) ^ i = P at hpow hps h1
    have hP : (10 : Int) ^ 10 = 10000000000 := rfl
    have w : ∀ z : Int, -1000 ≤ z → z < 1000000000000 → wrap64 z = z := by
      intro z q1 q2
      unfold wrap64; omega
    have e1 : wrap64 (wrap64 (wrap64 (10 * n) + wrap64 b) - 48) = 10 * n + b - 48 := by
      rw [w (10 * n) (by omega) (by omega), w b (by omega) (by omega), w (10 * n + b) (by omega) (by omega), w (10 * n + b - 48) (by omega) (by omega)]
    have e2 : wrap64 (wrap64 (n * 10) + (b - 48) % 256) = 10 * n + b - 48 := by
      rw [w (n * 10) (by omega) (by omega), show (b - 48) % 256 = b - 48 by omega, w _ (by omega) (by omega)]
      omega
    rw [e1, e2, wrap_nat' i (by omega)]
    exact ih k (i + 1) _ (by omega) (by omega) (by omega) (by rw [hps]; omega)
theorem FnExactReadDecimal : laws_FnExactReadDecimal.Pure := by
  intro s _
  refine ⟨61, ?_⟩
  unfold laws_FnExactReadDecimal.f
  by_cases h : (s.size : Int) > 1048576
  · rw [if_pos h]
  rw [if_neg h]
  have fin : ∀ (r : Int × Bool), ((some r).bind fun bt131 => ((some r).bind fun bt133 => (if bt133.1 = bt131.1 then (if (bt133.2 != bt131.2) = true then (some false) else (some true)) else (some false)))) = some true := fun r => by simp
  unfold spec_ReadDecimal.f impl_ReadDecimal.f
  by_cases h0 : s.size = 0
  · rw [if_neg (by omega), if_pos (by omega), impl_ReadDecimal.j0, if_pos rfl, spec_ReadDecimal.l0, if_neg (by omega), if_neg (by omega), spec_Decimal_eq 60 (by omega) 0 (by omega) (by omega)]
    simp only [Option.bind_some]
    rw [if_neg]
    · simp
    · intro e
      have h1 := congrArg List.length e
      rw [toList_len, toList_len, h0, str_size, show Lib.itoa 0 = Lib.decDigits 0 from rfl, Lib.decDigits_one (by decide)] at h1
      exact absurd h1 (by decide)
  · rw [if_neg (c := (s.size : Int) = 0) (by omega)]
    by_cases h2 : (s.size : Int) > 10
    · rw [if_pos h2, impl_ReadDecimal.j0, if_pos (decide_eq_true h2)]
      exact fin _
    · rw [if_neg h2, impl_ReadDecimal.j0, if_neg (by simpa using h2)]
      obtain ⟨r, e1, e2⟩ := readDec_same s (by omega) s.size 60 0 0 (by omega) (by omega) (by omega) (by decide)
      have e3 := spec_ReadDecimal.mono_l 60 s 0 0 r e1
      have z : (((0 : Nat) : Int)) = 0 := rfl
      rw [z] at e2
      rw [e3, e2]
      exact fin r

end Go.Proofs.YtfigfpfgeoadbaaDoor.Pure
