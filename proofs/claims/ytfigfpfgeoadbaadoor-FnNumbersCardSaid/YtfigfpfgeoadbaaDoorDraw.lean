/- Plain arithmetic for what is drawn: the lowest byte of a number; numbers that are ints. Conditions: none. -/
import Derived.Test.YtfigfpfgeoadbaaDoorDot
import Derived.Laws.BitsLemmas
namespace Go.Proofs.YtfigfpfgeoadbaaDoor.M
open Go.RowKit
theorem and255 (y : Int) : 0 ≤ Go.bits .and .i64 y 255 ∧ Go.bits .and .i64 y 255 ≤ 255 := by
  show 0 ≤ IntKind.i64.wrap ((BitVec.ofInt 64 y &&& BitVec.ofInt 64 255).toNat : Int) ∧ IntKind.i64.wrap ((BitVec.ofInt 64 y &&& BitVec.ofInt 64 255).toNat : Int) ≤ 255
  rw [BitVec.toNat_and, IntKind.wrap_i64]
  have h : (BitVec.ofInt 64 y).toNat &&& (BitVec.ofInt 64 255).toNat ≤ (BitVec.ofInt 64 255).toNat := Nat.and_le_right
  rw [show (BitVec.ofInt 64 255).toNat = 255 from rfl] at h ⊢
  omega
def IsInt (x : Int) : Prop := -9223372036854775808 ≤ x ∧ x ≤ 9223372036854775807
theorem wrap_isInt (x : Int) : IsInt (wrap64 x) := by
  unfold IsInt wrap64
  omega
theorem lit_isInt (x : Int) (h : -9223372036854775808 ≤ x) (k : x ≤ 9223372036854775807) : IsInt x := ⟨h, k⟩
theorem l04_ints (x y : Int) : ∀ q ∈ ([0, 1, 2, 3, 12106, 12107, 12108, (-1), wrap64 (5000 + x), wrap64 (y * 47), (-9223372036854775808), 9223372036854775807] : List Int), IsInt q := by
  intro q hq
  simp only [List.mem_cons, List.not_mem_nil, or_false] at hq
  rcases hq with rfl | rfl | rfl | rfl | rfl | rfl | rfl | rfl | rfl | rfl | rfl | rfl
  all_goals first | exact wrap_isInt _ | exact lit_isInt _ (by omega) (by omega)
theorem l06_ints (x : Int) : ∀ q ∈ ([0, 1, 2, 1008, 1009, 1010, (-1), wrap64 (x * 3), 500, (-9223372036854775808), 9223372036854775807] : List Int), IsInt q := by
  intro q hq
  simp only [List.mem_cons, List.not_mem_nil, or_false] at hq
  rcases hq with rfl | rfl | rfl | rfl | rfl | rfl | rfl | rfl | rfl | rfl | rfl
  all_goals first | exact wrap_isInt _ | exact lit_isInt _ (by omega) (by omega)
theorem rd_range {l : List Int} {lo hi : Int} (hall : ∀ x ∈ l, lo ≤ x ∧ x < hi) (i : Nat) (h : i < l.length) : lo ≤ l.getD i 0 ∧ l.getD i 0 < hi := by
  rw [List.getD_eq_getElem?_getD, List.getElem?_eq_getElem h]
  exact hall _ (List.getElem_mem _)
end Go.Proofs.YtfigfpfgeoadbaaDoor.M
