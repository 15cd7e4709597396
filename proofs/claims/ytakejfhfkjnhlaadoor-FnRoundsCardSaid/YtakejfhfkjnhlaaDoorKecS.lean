/- KeccakRound and KeccakF as functions of Lean, with their walks, as the print names them. Conditions: none. -/
import Derived.Test.YtakejfhfkjnhlaaDoorKecI
set_option linter.unusedVariables false
set_option linter.unusedSimpArgs false
namespace Go.Proofs.YtakejfhfkjnhlaaDoor.KW
open Go.RowKit Go.Proofs.YtakejfhfkjnhlaaDoorW.PrintWords Go.Proofs.YtakejfhfkjnhlaaDoorW.PrintLast Go.Proofs.YtakejfhfkjnhlaaDoorW.PrintMore
open Go.Proofs.YtakejfhfkjnhlaaDoor.M Go.Proofs.YtakejfhfkjnhlaaDoor.PFnExactKeccakRound
theorem LaidW.below {w w' : World} (h : LaidW w) (hb : Below w.heap.size w w') : LaidW w' := h.grown (below_grown hb) (by simp) (by simp)
def impl_KeccakRound.f (s : ByteArray) (n : Int) : Option ByteArray := some (krF s n)
def spec_KeccakRound.f (s : ByteArray) (n : Int) : Option ByteArray := some (krF s n)
def impl_KeccakF.f (s : ByteArray) : Option ByteArray := some (kfF s)
def spec_KeccakF.f (s : ByteArray) : Option ByteArray := some (kfF s)
theorem impl_KeccakRound.calls (s : ByteArray) (n : Int) (r : ByteArray) (w : World) (h : impl_KeccakRound.f s n = some r) (hl : LaidW w) : Calls Tryd.prog 13 #[.string s, .int .i64 n] w fun e w' => e = .returned (.string r) ∧ Below w.heap.size w w' := by
  obtain rfl := Option.some.inj h
  exact implKR s n w hl
theorem spec_KeccakRound.calls (s : ByteArray) (n : Int) (r : ByteArray) (w : World) (h : spec_KeccakRound.f s n = some r) : Calls Tryd.prog 12 #[.string s, .int .i64 n] w fun e w' => e = .returned (.string r) ∧ Below w.heap.size w w' := by
  obtain rfl := Option.some.inj h
  exact specKR s n w
theorem impl_KeccakF.calls (s : ByteArray) (r : ByteArray) (w : World) (h : impl_KeccakF.f s = some r) (hl : LaidW w) : Calls Tryd.prog 15 #[.string s] w fun e w' => e = .returned (.string r) ∧ Below w.heap.size w w' := by
  obtain rfl := Option.some.inj h
  exact implKF s w hl
theorem spec_KeccakF.calls (s : ByteArray) (r : ByteArray) (w : World) (h : spec_KeccakF.f s = some r) : Calls Tryd.prog 14 #[.string s] w fun e w' => e = .returned (.string r) ∧ Below w.heap.size w w' := by
  obtain rfl := Option.some.inj h
  exact specKF s w
end Go.Proofs.YtakejfhfkjnhlaaDoor.KW
