/- Plain arithmetic for what is drawn: the lowest byte of a number; numbers that are ints. Conditions: none. -/
import Derived.Test.YtakejfhfkjnhlaaDoorDot
import Derived.Laws.BitsLemmas
namespace Go.Proofs.YtakejfhfkjnhlaaDoor.M
open Go.RowKit
theorem and255 (y : Int) : 0 ≤ Go.bits .and .i64 y 255 ∧ Go.bits .and .i64 y 255 ≤ 255 := by
  show 0 ≤ IntKind.i64.wrap ((BitVec.ofInt 64 y &&& BitVec.ofInt 64 255).toNat : Int) ∧ IntKind.i64.wrap ((BitVec.ofInt 64 y &&& BitVec.ofInt 64 255).toNat : Int) ≤ 255
  rw [BitVec.toNat_and, IntKind.wrap_i64]
  have h : (BitVec.ofInt 64 y).toNat &&& (BitVec.ofInt 64 255).toNat ≤ (BitVec.ofInt 64 255).toNat := Nat.and_le_right
  rw [show (BitVec.ofInt 64 255).toNat = 255 from rfl] at h ⊢
  omega
def IsInt (x : Int) : Prop := -9223372036854775808 ≤ x ∧ x ≤ 9223372036854775807
theorem wrap_isInt (x : Int) : IsInt (wrap64 x) := by
  unfold IsInt wrap64
  omega
theorem lit_isInt (x : Int) (h : -9223372036854775808 ≤ x) (k : x ≤ 9223372036854775807) : IsInt x := ⟨h, k⟩
end Go.Proofs.YtakejfhfkjnhlaaDoor.M
