/- Plain arithmetic: every number that is not 0 modulo 1009, to the power 1008, is 1 (looked at by the kernel, number by number). Conditions: none. -/
import Derived.Test.YtfigfpfgeoadbaaFermat
namespace Go.Proofs.Ytfigfpfgeoadbaa.M
set_option maxRecDepth 100000 in
theorem fermat9_chk : chk (fun a => a == 0 || decide (1009 ≤ a) || a ^ 1008 % 1009 == 1) 10 0 = true := by decide +kernel
theorem fermat9_nat (a : Nat) (h0 : 0 < a) (h1 : a < 1009) : a ^ 1008 % 1009 = 1 := by
  have h := chk_spec _ 10 0 fermat9_chk a (by omega) (by omega)
  simp at h
  omega
theorem inv_mul9 (a : Int) (h0 : 0 < a) (h1 : a < 1009) : a * (a ^ 1007 % 1009) % 1009 = 1 := by
  obtain ⟨n, rfl⟩ := Int.eq_ofNat_of_zero_le (show 0 ≤ a by omega)
  rw [emod_mul_r, Int.mul_comm, ← Int.pow_succ]
  have := fermat9_nat n (by omega) (by omega)
  have e : ((n ^ 1008 % 1009 : Nat) : Int) = (1 : Nat) := by rw [this]
  simpa [Int.natCast_emod, Int.natCast_pow] using e
end Go.Proofs.Ytfigfpfgeoadbaa.M
