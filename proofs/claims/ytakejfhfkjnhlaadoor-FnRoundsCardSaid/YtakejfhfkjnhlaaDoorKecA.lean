/- Walks of Keccak's words: a word read at any place of a text, a state loaded. Conditions: none. -/
import Derived.Test.YtakejfhfkjnhlaaDoorPFnExactKeccakRoundx1
import Derived.Test.YtakejfhfkjnhlaaDoorKec
import Derived.Test.YtakejfhfkjnhlaaDoorBlk
import Derived.BigRegion
set_option linter.unusedVariables false
set_option linter.unusedSimpArgs false
namespace Go.Proofs.YtakejfhfkjnhlaaDoor.KW
open Go.RowKit Go.Proofs.YtakejfhfkjnhlaaDoorW.PrintWords Go.Proofs.YtakejfhfkjnhlaaDoorW.PrintLast Go.Proofs.YtakejfhfkjnhlaaDoorW.PrintMore
open Go.Proofs.YtakejfhfkjnhlaaDoor.M Go.Proofs.YtakejfhfkjnhlaaDoor.PFnExactKeccakRound
def wsL (s : ByteArray) (a : Nat) : List Nat := (List.range 8).map fun j => (bt s ((a + j : Nat) : Int)).toNat
theorem wsL_drop (s : ByteArray) (a j : Nat) (hj : j < 8) : (wsL s a).drop j = (bt s ((a + j : Nat) : Int)).toNat :: (wsL s a).drop (j + 1) := by
  have hl : j < (wsL s a).length := by simp [wsL]; omega
  rw [List.drop_eq_getElem_cons hl]
  simp [wsL]
theorem wsL_lt (s : ByteArray) (a : Nat) (b : Nat) (hb : b ∈ wsL s a) : b < 256 := by
  obtain ⟨j, _, rfl⟩ := List.mem_map.1 hb
  have := bt_range s ((a + j : Nat) : Int)
  omega
theorem leV_wsL (s : ByteArray) (a j : Nat) (hj : j < 8) : leV ((wsL s a).drop (j + 1)) < 72057594037927936 := by
  have h := leV_lt ((wsL s a).drop (j + 1)) (fun b hb => wsL_lt s a b (List.mem_of_mem_drop hb))
  rw [List.length_drop, show (wsL s a).length = 8 by simp [wsL]] at h
  have h2 : 256 ^ (8 - (j + 1)) ≤ 256 ^ 7 := Nat.pow_le_pow_right (by decide) (by omega)
  exact Nat.lt_of_lt_of_le h (by simpa using h2)
theorem wsL_step (s : ByteArray) (a j : Nat) (hj : j < 8) : Go.bits .or .u64 (IntKind.u64.wrap (((leV ((wsL s a).drop (j + 1)) : Nat) : Int) * 256)) (IntKind.u64.wrap (bt s ((a + j : Nat) : Int))) = ((leV ((wsL s a).drop j) : Nat) : Int) := by
  have hb := bt_range s ((a + j : Nat) : Int)
  have ho := or_byte (leV ((wsL s a).drop (j + 1))) (bt s ((a + j : Nat) : Int)).toNat (leV_wsL s a j hj) (by omega)
  rw [Int.toNat_of_nonneg hb.1] at ho
  rw [ho, wsL_drop s a j hj, leV]
  omega
theorem impl_wordAt_all (s : ByteArray) (a : Nat) (h : a + 8 ≤ s.size) (hs : s.size ≤ 1000000000) : ∀ (j k : Nat), j ≤ 8 → j < k → impl_wordAt.l0 k s a ((leV ((wsL s a).drop j) : Nat) : Int) ((j : Int) - 1) = some ((wordN s a : Nat) : Int) := by
  intro j
  induction j with
  | zero =>
    intro k _ hk
    obtain ⟨k, rfl⟩ : ∃ m, k = m + 1 := ⟨k - 1, by omega⟩
    simp only [impl_wordAt.l0]
    rw [if_neg (by omega), List.drop_zero]
    rfl
  | succ j ih =>
    intro k hj hk
    obtain ⟨k, rfl⟩ : ∃ m, k = m + 1 := ⟨k - 1, by omega⟩
    simp only [impl_wordAt.l0]
    have e : wrap64 ((a : Int) + (((j + 1 : Nat) : Int) - 1)) = ((a + j : Nat) : Int) := by unfold wrap64; omega
    have e2 : wrap64 ((((j + 1 : Nat) : Int) - 1) - 1) = (j : Int) - 1 := by unfold wrap64; omega
    rw [if_pos (by omega), e, e2, if_pos (by omega), if_pos (by omega), wsL_step s a j (by omega)]
    exact ih k (by omega) (by omega)
theorem impl_wordAt_val (s : ByteArray) (a : Nat) (h : a + 8 ≤ s.size) (hs : s.size ≤ 1000000000) : impl_wordAt.f 9 s a = some ((wordN s a : Nat) : Int) := by
  have h := impl_wordAt_all s a h hs 8 9 (by omega) (by omega)
  rw [List.drop_eq_nil_of_le (by simp [wsL])] at h
  exact h
theorem spec_l03Word_all (s : ByteArray) (a : Nat) (h : a + 8 ≤ s.size) (hs : s.size ≤ 1000000000) : ∀ (j k : Nat), j ≤ 8 → j < k → spec_l03Word.l0 k s a ((leV ((wsL s a).drop j) : Nat) : Int) ((j : Int) - 1) = some ((wordN s a : Nat) : Int) := by
  intro j
  induction j with
  | zero =>
    intro k _ hk
    obtain ⟨k, rfl⟩ : ∃ m, k = m + 1 := ⟨k - 1, by omega⟩
    simp only [spec_l03Word.l0]
    rw [if_neg (by omega), List.drop_zero]
    rfl
  | succ j ih =>
    intro k hj hk
    obtain ⟨k, rfl⟩ : ∃ m, k = m + 1 := ⟨k - 1, by omega⟩
    simp only [spec_l03Word.l0]
    have e : wrap64 ((a : Int) + (((j + 1 : Nat) : Int) - 1)) = ((a + j : Nat) : Int) := by unfold wrap64; omega
    have e2 : wrap64 ((((j + 1 : Nat) : Int) - 1) - 1) = (j : Int) - 1 := by unfold wrap64; omega
    rw [if_pos (by omega), e, e2, if_pos (by omega), if_pos (by omega), wsL_step s a j (by omega)]
    exact ih k (by omega) (by omega)
theorem spec_l03Word_val (s : ByteArray) (a : Nat) (h : a + 8 ≤ s.size) (hs : s.size ≤ 1000000000) : spec_l03Word.f 9 s a = some ((wordN s a : Nat) : Int) := by
  have h := spec_l03Word_all s a h hs 8 9 (by omega) (by omega)
  rw [List.drop_eq_nil_of_le (by simp [wsL])] at h
  exact h
theorem implWord (s : ByteArray) (a : Nat) (h : a + 8 ≤ s.size) (hs : s.size ≤ 1000000000) (w : World) : Calls Tryd.prog 48 #[.string s, .int .i64 (a : Int)] w fun e w' => e = .returned (.int .u64 ((wordN s a : Nat) : Int)) ∧ Drawn0 w w' :=
  impl_wordAt.calls 9 s a _ w (impl_wordAt_val s a h hs)
theorem specWord (s : ByteArray) (a : Nat) (h : a + 8 ≤ s.size) (hs : s.size ≤ 1000000000) (w : World) : Calls Tryd.prog 52 #[.string s, .int .i64 (a : Int)] w fun e w' => e = .returned (.int .u64 ((wordN s a : Nat) : Int)) ∧ Drawn0 w w' :=
  spec_l03Word.calls 9 s a _ w (spec_l03Word_val s a h hs)
end Go.Proofs.YtakejfhfkjnhlaaDoor.KW
