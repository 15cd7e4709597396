/- Plain: a text and what is padded behind it. Conditions: none. -/
import Derived.Test.YtakejfhfkjnhlaaDoorRead
import Derived.Lib.Repeat
import Derived.Test.YtakejfhfkjnhlaaDoorWMore
namespace Go.Proofs.YtakejfhfkjnhlaaDoor.M
open Go.RowKit Go.Proofs.YtakejfhfkjnhlaaDoorW.PrintWords Go.Proofs.YtakejfhfkjnhlaaDoorW.PrintMore
def padFin (Y : List Int) : ByteArray := strOfNums (Y.set ((((Y.length - 1 : Nat) : Int)) : Int).toNat (Go.bits .or .u8 (rd Y (((Y.length - 1 : Nat) : Int))) 128))
def padL (s : ByteArray) : List Int := bytesOf s ++ [1] ++ List.replicate (135 - s.size % 136) 0
def padOf (s : ByteArray) : ByteArray := padFin (padL s)
theorem padL_length (s : ByteArray) : (padL s).length = s.size + 1 + (135 - s.size % 136) := by
  unfold padL
  rw [List.length_append, List.length_append, bytesOf_length, List.length_replicate]
  rfl
theorem repeat_zero : ∀ n, Lib.repeatL [(0 : UInt8)] n = List.replicate n 0
  | 0 => rfl
  | n + 1 => by
    rw [Lib.repeatL, repeat_zero n]
    rfl
theorem zeros_size (n : Nat) : (⟨(Lib.repeatL [0] n).toArray⟩ : ByteArray).size = n := by
  rw [repeat_zero]
  show (List.replicate n (0 : UInt8)).toArray.size = n
  simp
theorem bytesOf_append (s t : ByteArray) : bytesOf (s ++ t) = bytesOf s ++ bytesOf t := by
  unfold bytesOf
  simp
theorem pad_bytes (s : ByteArray) : bytesOf ((s ++ (⟨#[1]⟩ : ByteArray)) ++ (⟨(Lib.repeatL [0] (135 - s.size % 136)).toArray⟩ : ByteArray)) = padL s := by
  rw [bytesOf_append, bytesOf_append, repeat_zero]
  unfold padL
  congr 1
  unfold bytesOf
  simp
end Go.Proofs.YtakejfhfkjnhlaaDoor.M
