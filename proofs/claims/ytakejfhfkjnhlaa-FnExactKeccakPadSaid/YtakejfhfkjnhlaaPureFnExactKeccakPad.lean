/- Proved: KeccakPad of the program and of the reference agree at every text of at most 2^20 bytes (the law asks no more). Conditions: none. -/
import Derived.Test.YtakejfhfkjnhlaaQFnExactKeccakPadx1
import Derived.Test.YtakejfhfkjnhlaaMod
import Derived.Test.YtakejfhfkjnhlaaRepeat
import Derived.Test.YtakejfhfkjnhlaaRead
import Derived.Test.YtakejfhfkjnhlaaPad
set_option linter.unusedVariables false
set_option linter.unusedSimpArgs false
namespace Go.Proofs.Ytakejfhfkjnhlaa.Pure
open Go.RowKit Go.Proofs.Ytakejfhfkjnhlaa.PFnExactKeccakPad Go.Proofs.YtakejfhfkjnhlaaW.PrintWords Go.Proofs.YtakejfhfkjnhlaaW.PrintLast Go.Proofs.YtakejfhfkjnhlaaW.PrintMore
open Go.Proofs.Ytakejfhfkjnhlaa.M

theorem spec_KeccakPad_l0 : ∀ (d k : Nat) (X : List Int), d < k → (X.length + d) % 136 = 0 → d < 136 → 0 < X.length → X.length + d ≤ 1000000000 → spec_KeccakPad.l0 k X = some (padFin (X ++ List.replicate d 0)) := by
  intro d
  induction d with
  | zero =>
    intro k X hk hm hd hp hl
    obtain ⟨k, rfl⟩ : ∃ m, k = m + 1 := ⟨k - 1, by omega⟩
    simp only [spec_KeccakPad.l0]
    have e : wrap64 ((X.length : Int) - 1) = ((X.length - 1 : Nat) : Int) := by unfold wrap64; omega
    rw [if_pos (by omega), e, if_pos (by omega), if_pos (by omega), List.replicate_zero, List.append_nil]
    rfl
  | succ d ih =>
    intro k X hk hm hd hp hl
    obtain ⟨k, rfl⟩ : ∃ m, k = m + 1 := ⟨k - 1, by omega⟩
    simp only [spec_KeccakPad.l0]
    rw [if_neg (by omega), if_pos (by omega), ih k (X ++ [0]) (by omega) (by rw [List.length_append, List.length_singleton]; omega) (by omega) (by simp) (by rw [List.length_append, List.length_singleton]; omega)]
    rw [List.append_assoc]
    rfl
theorem spec_KeccakPad_eq (k : Nat) (hk : 140 ≤ k) (s : ByteArray) (hs : s.size ≤ 100000000) : spec_KeccakPad.f k s = some (padOf s) := by
  unfold spec_KeccakPad.f padOf padL
  have hl := bytesOf_length s
  rw [if_pos (by omega)]
  try simp only [Option.bind_some]
  rw [if_pos (by omega), spec_KeccakPad_l0 (135 - s.size % 136) k (bytesOf s ++ [1]) (by omega) (by rw [List.length_append, List.length_singleton]; omega) (by omega) (by simp) (by rw [List.length_append, List.length_singleton]; omega)]
theorem impl_KeccakPad_eq (s : ByteArray) (hs : s.size ≤ 100000000) : impl_KeccakPad.f s = some (padOf s) := by
  unfold impl_KeccakPad.f
  have hr : strings_Repeat.f (⟨#[0]⟩ : ByteArray) (135 - ((s.size : Int) % 136)) = some ⟨(Lib.repeatL [0] (135 - s.size % 136)).toArray⟩ := by
    unfold strings_Repeat.f
    rw [if_pos ⟨by omega, by omega, by show 1 ≤ 1000000; omega⟩, show (135 - ((s.size : Int) % 136)).toNat = 135 - s.size % 136 by omega]
  rw [if_pos (by omega), hr]
  try simp only [Option.bind_some]
  have h1 : (⟨#[1]⟩ : ByteArray).size = 1 := rfl
  have hz := zeros_size (135 - s.size % 136)
  have hb := pad_bytes s
  generalize (⟨(Lib.repeatL [0] (135 - s.size % 136)).toArray⟩ : ByteArray) = z at hz hb ⊢
  rw [ByteArray.size_append, ByteArray.size_append, ByteArray.size_append, h1, hz, if_pos (by omega), if_pos (by omega)]
  try simp only [Option.bind_some]
  rw [hb]
  have hl : (padL s).length = s.size + 1 + (135 - s.size % 136) := padL_length s
  have e : wrap64 (((padL s).length : Int) - 1) = (((padL s).length - 1 : Nat) : Int) := by unfold wrap64; omega
  rw [e, if_pos (by omega), if_pos (by omega)]
  rfl
theorem FnExactKeccakPad : laws_FnExactKeccakPad.Pure := by
  intro s _
  refine ⟨140, ?_⟩
  unfold laws_FnExactKeccakPad.f
  by_cases h : (s.size : Int) > 1048576
  · rw [if_pos h]
  rw [if_neg h, spec_KeccakPad_eq 140 (by omega) s (by omega), impl_KeccakPad_eq s (by omega)]
  simp

end Go.Proofs.Ytakejfhfkjnhlaa.Pure
