/- Plain arithmetic: words as the printed functions build them. Conditions: none. -/
import Derived.Test.YtakejfhfkjnhlaaDoorWord
namespace Go.Proofs.YtakejfhfkjnhlaaDoor.M
open Go.RowKit Go.Proofs.YtakejfhfkjnhlaaDoorW.PrintWords Go.Proofs.YtakejfhfkjnhlaaDoorW.PrintMore
theorem and_63 (a : Nat) (ha : a < 18446744073709551616) : Go.bits .and .u64 (a : Int) 63 = ((a % 64 : Nat) : Int) := by
  have h := bits_mask .u64 64 (by decide) (fun m h0 h1 => u64_id m h0 h1) 6 (by omega) (a : Int) (by omega) (by omega)
  rw [show ((2 : Int) ^ 6 - 1) = 63 from rfl] at h
  rw [h]
  omega
theorem shr_byte (x i : Nat) (hi : i < 8) : shr .u64 (x : Int) (IntKind.u64.wrap (8 * IntKind.u64.wrap (i : Int))) = ((x / 256 ^ i : Nat) : Int) := by
  rw [u64_id (i : Int) (by omega) (by omega), u64_id (8 * (i : Int)) (by omega) (by omega)]
  unfold shr
  rw [show (8 * (i : Int)).toNat = 8 * i by omega, Nat.min_eq_left (show 8 * i ≤ IntKind.u64.bits by show 8 * i ≤ 64; omega), show (256 : Nat) = 2 ^ 8 from rfl, ← Nat.pow_mul, Int.natCast_ediv, Int.natCast_pow]
  rfl
theorem byteNs_word (s : ByteArray) (hs : s.size = 8) : leB 8 (leV (byteNs s)) = byteNs s := by
  have h := leB_leV (byteNs s) (byteNs_lt s)
  rw [byteNs_length, hs] at h
  exact h
theorem leV_word (s : ByteArray) (hs : s.size = 8) : leV (byteNs s) < 2 ^ 64 := by
  have h := leV_lt (byteNs s) (byteNs_lt s)
  rw [byteNs_length, hs] at h
  exact h
theorem leV_drop (s : ByteArray) (hs : s.size = 8) (j : Nat) (hj : j < 8) : leV ((byteNs s).drop (j + 1)) < 72057594037927936 := by
  have h := leV_lt ((byteNs s).drop (j + 1)) (fun b hb => byteNs_lt s b (List.mem_of_mem_drop hb))
  rw [List.length_drop, byteNs_length, hs] at h
  have h2 : 256 ^ (8 - (j + 1)) ≤ 256 ^ 7 := Nat.pow_le_pow_right (by decide) (by omega)
  exact Nat.lt_of_lt_of_le h (by simpa using h2)
theorem str_word (s : ByteArray) (hs : s.size = 8) : strOfNums ((leB 8 (leV (byteNs s))).map fun (b : Nat) => (b : Int)) = s := by
  rw [byteNs_word s hs]
  exact byteNs_inj (byteNs_str _ (byteNs_lt s))
end Go.Proofs.YtakejfhfkjnhlaaDoor.M
