/- strings.Repeat of the program as a Lean function, by the shelf's contract. Conditions: none. -/
import Derived.Test.YtakejfhfkjnhlaaDoorProg
import Derived.Test.YtakejfhfkjnhlaaDoorWMore
import Derived.Test.YtakejfhfkjnhlaaDoorWLast
import Derived.Test.YtakejfhfkjnhlaaDoorLaysRepeat
namespace Go.Proofs.YtakejfhfkjnhlaaDoor.M
open Go.RowKit Go.Shelf Go.Proofs.YtakejfhfkjnhlaaDoorW.PrintWords Go.Proofs.YtakejfhfkjnhlaaDoorW.PrintMore
set_option maxRecDepth 100000 in
theorem rpExtra : Builder.Extra Tryd.prog rpRen where
  sizeBuilder := by kernel_rfl
  liesBuilder := by kernel_rfl
  t5 := by kernel_rfl
  a5 := fun w => by kernel_rfl
  z5 := fun w => by kernel_rfl
  v5 := fun w => by kernel_rfl
  infoByte := by kernel_rfl
  cellsByte := by kernel_rfl
  sizeByte := by kernel_rfl
  neB5 := by decide
def strings_Repeat.f (s : ByteArray) (n : Int) : Option ByteArray := if 0 ≤ n ∧ n ≤ 1000000 ∧ s.size ≤ 1000000 then some ⟨(Lib.repeatL s.data.toList n.toNat).toArray⟩ else none
theorem strings_Repeat.calls (s : ByteArray) (n : Int) (r : ByteArray) (w : World) (h : strings_Repeat.f s n = some r) :
    Calls Tryd.prog 55 #[.string s, .int .i64 n] w fun e w' => e = .returned (.string r) ∧ Below w.heap.size w w' := by
  unfold strings_Repeat.f at h
  by_cases c : 0 ≤ n ∧ n ≤ 1000000 ∧ s.size ≤ 1000000
  · rw [if_pos c] at h
    obtain rfl := Option.some.inj h
    obtain ⟨m, rfl⟩ := Int.eq_ofNat_of_zero_le c.1
    rw [Int.toNat_natCast]
    have hm : s.size * m ≤ 1000000 * 1000000 := Nat.mul_le_mul c.2.2 (by omega)
    exact Any.strings_Repeat rpLays rpExtra s m w (by omega) (by omega)
  · rw [if_neg c] at h
    exact absurd h (by simp)
end Go.Proofs.YtakejfhfkjnhlaaDoor.M
