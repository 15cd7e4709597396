/- Own texts in one (a claim bears at most 60 files): KecS, KecT. Conditions: none. -/
import Derived.Test.YtakejfhfkjnhlaaDoorKecI
import Derived.Test.YtakejfhfkjnhlaaDoorKecP
set_option linter.unusedVariables false
set_option linter.unusedSimpArgs false
namespace Go.Proofs.YtakejfhfkjnhlaaDoor.KW
open Go.RowKit Go.Proofs.YtakejfhfkjnhlaaDoorW.PrintWords Go.Proofs.YtakejfhfkjnhlaaDoorW.PrintLast Go.Proofs.YtakejfhfkjnhlaaDoorW.PrintMore
open Go.Proofs.YtakejfhfkjnhlaaDoor.M Go.Proofs.YtakejfhfkjnhlaaDoor.PFnExactKeccakRound
theorem LaidW.below {w w' : World} (h : LaidW w) (hb : Below w.heap.size w w') : LaidW w' := h.grown (below_grown hb) (by simp) (by simp)
def impl_KeccakRound.f (s : ByteArray) (n : Int) : Option ByteArray := some (krF s n)
def spec_KeccakRound.f (s : ByteArray) (n : Int) : Option ByteArray := some (krF s n)
def impl_KeccakF.f (s : ByteArray) : Option ByteArray := some (kfF s)
def spec_KeccakF.f (s : ByteArray) : Option ByteArray := some (kfF s)
theorem impl_KeccakRound.calls (s : ByteArray) (n : Int) (r : ByteArray) (w : World) (h : impl_KeccakRound.f s n = some r) (hl : LaidW w) : Calls Tryd.prog 13 #[.string s, .int .i64 n] w fun e w' => e = .returned (.string r) ∧ Below w.heap.size w w' := by
  obtain rfl := Option.some.inj h
  exact implKR s n w hl
theorem spec_KeccakRound.calls (s : ByteArray) (n : Int) (r : ByteArray) (w : World) (h : spec_KeccakRound.f s n = some r) : Calls Tryd.prog 12 #[.string s, .int .i64 n] w fun e w' => e = .returned (.string r) ∧ Below w.heap.size w w' := by
  obtain rfl := Option.some.inj h
  exact specKR s n w
theorem impl_KeccakF.calls (s : ByteArray) (r : ByteArray) (w : World) (h : impl_KeccakF.f s = some r) (hl : LaidW w) : Calls Tryd.prog 15 #[.string s] w fun e w' => e = .returned (.string r) ∧ Below w.heap.size w w' := by
  obtain rfl := Option.some.inj h
  exact implKF s w hl
theorem spec_KeccakF.calls (s : ByteArray) (r : ByteArray) (w : World) (h : spec_KeccakF.f s = some r) : Calls Tryd.prog 14 #[.string s] w fun e w' => e = .returned (.string r) ∧ Below w.heap.size w w' := by
  obtain rfl := Option.some.inj h
  exact specKF s w
end Go.Proofs.YtakejfhfkjnhlaaDoor.KW
set_option linter.unusedVariables false
set_option linter.unusedSimpArgs false
namespace Go.Proofs.YtakejfhfkjnhlaaDoor.KW
open Go.RowKit Go.Proofs.YtakejfhfkjnhlaaDoorW.PrintWords Go.Proofs.YtakejfhfkjnhlaaDoorW.PrintLast Go.Proofs.YtakejfhfkjnhlaaDoorW.PrintMore
open Go.Proofs.YtakejfhfkjnhlaaDoor.M Go.Proofs.YtakejfhfkjnhlaaDoor.PFnExactKeccakRound
def impl_Digest.f (s : ByteArray) : Option ByteArray := if s.size ≤ 10000000 then some (digOf s) else none
theorem impl_Digest.calls (s : ByteArray) (r : ByteArray) (w : World) (h : impl_Digest.f s = some r) (hl : LaidW w) : Calls Tryd.prog 23 #[.string s] w fun e w' => e = .returned (.string r) ∧ Below w.heap.size w w' := by
  unfold impl_Digest.f at h
  by_cases c : s.size ≤ 10000000
  · rw [if_pos c] at h
    obtain rfl := Option.some.inj h
    exact implDigest s c w hl
  · rw [if_neg c] at h
    exact absurd h (by simp)
def impl_DigestPair.f (s t : ByteArray) : Option ByteArray := if s.size ≤ 2000000 ∧ t.size ≤ 2000000 then some (digOf (s ++ t)) else none
theorem impl_DigestPair.calls (s t : ByteArray) (r : ByteArray) (w : World) (h : impl_DigestPair.f s t = some r) (hl : LaidW w) : Calls Tryd.prog 25 #[.string s, .string t] w fun e w' => e = .returned (.string r) ∧ Below w.heap.size w w' := by
  unfold impl_DigestPair.f at h
  by_cases c : s.size ≤ 2000000 ∧ t.size ≤ 2000000
  · rw [if_pos c] at h
    obtain rfl := Option.some.inj h
    exact implPair s t c.1 c.2 w hl
  · rw [if_neg c] at h
    exact absurd h (by simp)
def spec_Digest.f (s : ByteArray) : Option ByteArray := if s.size ≤ 10000000 then some (digOf s) else none
theorem spec_Digest.calls (s : ByteArray) (r : ByteArray) (w : World) (h : spec_Digest.f s = some r) : Calls Tryd.prog 22 #[.string s] w fun e w' => e = .returned (.string r) ∧ Below w.heap.size w w' := by
  unfold spec_Digest.f at h
  by_cases c : s.size ≤ 10000000
  · rw [if_pos c] at h
    obtain rfl := Option.some.inj h
    exact specDigest s c w
  · rw [if_neg c] at h
    exact absurd h (by simp)
def spec_DigestPair.f (s t : ByteArray) : Option ByteArray := if s.size ≤ 2000000 ∧ t.size ≤ 2000000 then some (digOf (s ++ t)) else none
theorem spec_DigestPair.calls (s t : ByteArray) (r : ByteArray) (w : World) (h : spec_DigestPair.f s t = some r) : Calls Tryd.prog 24 #[.string s, .string t] w fun e w' => e = .returned (.string r) ∧ Below w.heap.size w w' := by
  unfold spec_DigestPair.f at h
  by_cases c : s.size ≤ 2000000 ∧ t.size ≤ 2000000
  · rw [if_pos c] at h
    obtain rfl := Option.some.inj h
    exact specPair s t c.1 c.2 w
  · rw [if_neg c] at h
    exact absurd h (by simp)
def impl_DigestHex.f (s : ByteArray) : Option ByteArray := if s.size ≤ 10000000 then (Go.Proofs.YtakejfhfkjnhlaaDoor.PFnExactDigestHex.impl_Hex.f 20002 (digOf s)).bind fun r => some r.1 else none
theorem impl_DigestHex_some (s : ByteArray) (hs : s.size ≤ 10000000) : ∃ r, impl_DigestHex.f s = some r ∧ Go.Proofs.YtakejfhfkjnhlaaDoor.PFnExactDigestHex.impl_Hex.f 20002 (digOf s) = some (r, true) ∧ r.size = 64 := by
  obtain ⟨r, _, e2, e3⟩ := hexBoth (digOf s) (by rw [digOf_size]; omega)
  refine ⟨r, ?_, e2, by rw [e3, digOf_size]⟩
  unfold impl_DigestHex.f
  rw [if_pos hs, e2]
  rfl
theorem impl_DigestHex.calls (s : ByteArray) (r : ByteArray) (w : World) (h : impl_DigestHex.f s = some r) (hl : LaidW w) : Calls Tryd.prog 11 #[.string s] w fun e w' => e = .returned (.string r) ∧ Below w.heap.size w w' := by
  by_cases c : s.size ≤ 10000000
  · obtain ⟨r', e1, e2, _⟩ := impl_DigestHex_some s c
    obtain rfl := Option.some.inj (h.symm.trans e1)
    exact implDHex s c r e2 w hl
  · unfold impl_DigestHex.f at h
    rw [if_neg c] at h
    exact absurd h (by simp)
def impl_KeccakPad.f (s : ByteArray) : Option ByteArray := if s.size ≤ 100000000 then some (padOf s) else none
theorem impl_KeccakPad.calls (s : ByteArray) (r : ByteArray) (w : World) (h : impl_KeccakPad.f s = some r) : Calls Tryd.prog 27 #[.string s] w fun e w' => e = .returned (.string r) ∧ Below w.heap.size w w' := by
  unfold impl_KeccakPad.f at h
  by_cases c : s.size ≤ 100000000
  · rw [if_pos c] at h
    obtain rfl := Option.some.inj h
    exact implPad s c w
  · rw [if_neg c] at h
    exact absurd h (by simp)
end Go.Proofs.YtakejfhfkjnhlaaDoor.KW
