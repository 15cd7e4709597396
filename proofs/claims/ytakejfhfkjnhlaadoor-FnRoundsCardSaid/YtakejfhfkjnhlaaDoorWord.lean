/- Plain arithmetic: words of 64 bits, the lowest byte first; their turns. Conditions: none. -/
import Derived.Test.YtakejfhfkjnhlaaDoorRead
import Derived.Test.YtakejfhfkjnhlaaDoorWMore
namespace Go.Proofs.YtakejfhfkjnhlaaDoor.M
open Go.RowKit Go.Proofs.YtakejfhfkjnhlaaDoorW.PrintWords Go.Proofs.YtakejfhfkjnhlaaDoorW.PrintMore
theorem u64_id (n : Int) (h0 : 0 ≤ n) (h1 : n < 2 ^ 64) : IntKind.u64.wrap n = n := by
  simp [IntKind.wrap, IntKind.bits, IntKind.signed]
  exact Int.emod_eq_of_lt h0 h1
theorem u64_mod (n : Int) : IntKind.u64.wrap n = n % 18446744073709551616 := by
  simp [IntKind.wrap, IntKind.bits, IntKind.signed]
/-- a number of bytes, the lowest first -/
def leV : List Nat → Nat
  | [] => 0
  | b :: l => b + 256 * leV l
def leB : Nat → Nat → List Nat
  | 0, _ => []
  | d + 1, x => x % 256 :: leB d (x / 256)
theorem leV_lt : ∀ (l : List Nat), (∀ b ∈ l, b < 256) → leV l < 256 ^ l.length
  | [], _ => by simp [leV]
  | b :: l, h => by
    have h1 := leV_lt l (fun c hc => h c (by simp [hc]))
    have h2 := h b (by simp)
    show b + 256 * leV l < 256 ^ (l.length + 1)
    rw [Nat.pow_succ]
    omega
theorem leB_leV : ∀ (l : List Nat), (∀ b ∈ l, b < 256) → leB l.length (leV l) = l
  | [], _ => rfl
  | b :: l, h => by
    have h2 := h b (by simp)
    show (b + 256 * leV l) % 256 :: leB l.length ((b + 256 * leV l) / 256) = b :: l
    rw [show (b + 256 * leV l) % 256 = b by omega, show (b + 256 * leV l) / 256 = leV l by omega, leB_leV l (fun c hc => h c (by simp [hc]))]
theorem leB_length : ∀ (d x : Nat), (leB d x).length = d
  | 0, _ => rfl
  | d + 1, x => by simp [leB, leB_length d]
theorem leB_lt : ∀ (d x : Nat), ∀ b ∈ leB d x, b < 256
  | 0, _, b, h => by simp [leB] at h
  | d + 1, x, b, h => by
    simp only [leB, List.mem_cons] at h
    rcases h with rfl | h
    · omega
    · exact leB_lt d _ b h
theorem leV_leB : ∀ (d x : Nat), x < 256 ^ d → leV (leB d x) = x
  | 0, x, h => by simp at h; simp [leB, leV, h]
  | d + 1, x, h => by
    rw [Nat.pow_succ] at h
    show x % 256 + 256 * leV (leB d (x / 256)) = x
    rw [leV_leB d (x / 256) (by omega)]
    omega
theorem leV_snoc : ∀ (l : List Nat) (b : Nat), leV (l ++ [b]) = leV l + b * 256 ^ l.length
  | [], b => by simp [leV]
  | x :: l, b => by
    show x + 256 * leV (l ++ [b]) = x + 256 * leV l + b * 256 ^ (l.length + 1)
    rw [leV_snoc l b, Nat.pow_succ, Nat.mul_add, Nat.mul_comm 256 (b * 256 ^ l.length), Nat.mul_assoc]
    omega
theorem or_byte (n b : Nat) (hn : n < 72057594037927936) (hb : b < 256) : Go.bits .or .u64 (IntKind.u64.wrap ((n : Int) * 256)) (IntKind.u64.wrap (b : Int)) = ((n * 256 + b : Nat) : Int) := by
  rw [u64_id _ (by omega) (by omega), u64_id _ (by omega) (by omega)]
  rw [bits_join .u64 64 (by decide) (fun m h0 h1 => u64_id m h0 h1) 8 _ _ (by omega) (by omega) (by omega) (by omega) (by omega) (by omega)]
  omega
/-- a word turned to the left -/
def rotN (x k : Nat) : Nat := x * 2 ^ k % 2 ^ 64 + x / 2 ^ (64 - k)
theorem mad_mod {a b m : Nat} (h : b < m) : (a * m + b) % m = b := by rw [Nat.mul_comm, Nat.mul_add_mod, Nat.mod_eq_of_lt h]
theorem mad_div {a b m : Nat} (h : b < m) : (a * m + b) / m = a := by rw [Nat.mul_comm, Nat.mul_add_div (by omega), Nat.div_eq_of_lt h, Nat.add_zero]
theorem rot_parts (x k : Nat) (hx : x < 2 ^ 64) (hk : k ≤ 64) : ∃ a b, x = a * 2 ^ (64 - k) + b ∧ a < 2 ^ k ∧ b < 2 ^ (64 - k) ∧ rotN x k = b * 2 ^ k + a := by
  have hp : 2 ^ 64 = 2 ^ (64 - k) * 2 ^ k := by rw [← Nat.pow_add]; congr 1; omega
  have h1 : 0 < 2 ^ (64 - k) := Nat.two_pow_pos _
  have h2 : 0 < 2 ^ k := Nat.two_pow_pos _
  refine ⟨x / 2 ^ (64 - k), x % 2 ^ (64 - k), (Nat.div_add_mod' x _).symm, ?_, Nat.mod_lt _ h1, ?_⟩
  · rw [Nat.div_lt_iff_lt_mul h1, Nat.mul_comm, ← hp]
    exact hx
  · unfold rotN
    congr 1
    rw [hp, Nat.mul_mod_mul_right]
theorem rotN_lt (x k : Nat) (hx : x < 2 ^ 64) (hk : k ≤ 64) : rotN x k < 2 ^ 64 := by
  obtain ⟨a, b, _, ha, hb, e⟩ := rot_parts x k hx hk
  rw [e]
  have hp : 2 ^ 64 = 2 ^ (64 - k) * 2 ^ k := by rw [← Nat.pow_add]; congr 1; omega
  rw [hp]
  have h : (b + 1) * 2 ^ k ≤ 2 ^ (64 - k) * 2 ^ k := Nat.mul_le_mul_right _ hb
  rw [Nat.add_mul, Nat.one_mul] at h
  omega
/-- turned on, and back -/
theorem rotN_back (x k : Nat) (hx : x < 2 ^ 64) (hk : k ≤ 64) : rotN (rotN x k) (64 - k) = x := by
  obtain ⟨a, b, e0, ha, hb, e⟩ := rot_parts x k hx hk
  have hp : 2 ^ 64 = 2 ^ k * 2 ^ (64 - k) := by rw [← Nat.pow_add]; congr 1; omega
  rw [e]
  unfold rotN
  rw [show 64 - (64 - k) = k by omega, hp, Nat.mul_mod_mul_right, mad_mod ha, mad_div ha, ← e0]
theorem rotN_zero (x : Nat) (hx : x < 2 ^ 64) : rotN x 0 = x := by
  unfold rotN
  simp
  omega
/-- what Go's two shifts, put together, come to -/
theorem rot_int (x k : Nat) (hx : x < 2 ^ 64) (hk : k < 64) : Go.bits .or .u64 (shl .u64 (x : Int) (k : Int)) (shr .u64 (x : Int) (IntKind.u64.wrap (64 - (k : Int)))) = ((rotN x k : Nat) : Int) := by
  have e1 : shl .u64 (x : Int) (k : Int) = ((x * 2 ^ k % 2 ^ 64 : Nat) : Int) := by
    unfold shl
    rw [Int.toNat_natCast, Nat.min_eq_left (show k ≤ IntKind.u64.bits by show k ≤ 64; omega), u64_mod]
    rw [Int.natCast_emod, Int.natCast_mul, Int.natCast_pow]
    rfl
  have e2 : shr .u64 (x : Int) (IntKind.u64.wrap (64 - (k : Int))) = ((x / 2 ^ (64 - k) : Nat) : Int) := by
    rw [u64_id _ (by omega) (by omega)]
    unfold shr
    rw [show (64 - (k : Int)).toNat = 64 - k by omega, Nat.min_eq_left (show 64 - k ≤ IntKind.u64.bits by show 64 - k ≤ 64; omega)]
    rw [Int.natCast_ediv, Int.natCast_pow]
    rfl
  rw [e1, e2]
  obtain ⟨a, b, e0, ha, hb, e⟩ := rot_parts x k hx (by omega)
  have hp : 2 ^ 64 = 2 ^ (64 - k) * 2 ^ k := by rw [← Nat.pow_add]; congr 1; omega
  have ea : x / 2 ^ (64 - k) = a := by
    rw [e0, mad_div hb]
  have eb : x * 2 ^ k % 2 ^ 64 = b * 2 ^ k := by
    have h2 : rotN x k = x * 2 ^ k % 2 ^ 64 + x / 2 ^ (64 - k) := rfl
    rw [h2, ea] at e
    omega
  have hlt := rotN_lt x k hx (by omega)
  rw [e] at hlt
  rw [ea, eb]
  have hbig : (2 : Int) ^ 64 = ((2 ^ 64 : Nat) : Int) := by rw [Int.natCast_pow]; rfl
  have ka : (a : Int) < 2 ^ k := by
    have : ((2 ^ k : Nat) : Int) = (2 : Int) ^ k := by rw [Int.natCast_pow]; rfl
    rw [← this]
    exact_mod_cast ha
  have kd : ((b * 2 ^ k : Nat) : Int) % 2 ^ k = 0 := by
    rw [Int.natCast_mul, Int.natCast_pow]
    exact Int.mul_emod_left _ _
  have k1 : ((b * 2 ^ k : Nat) : Int) < 2 ^ 64 := by
    rw [hbig]
    exact_mod_cast (by omega)
  have k2 : (a : Int) < 2 ^ 64 := by
    rw [hbig]
    exact_mod_cast (by omega)
  rw [bits_join .u64 64 (by decide) (fun m h0 h1 => u64_id m h0 h1) k _ _ (by omega) kd k1 (by omega) ka k2, e]
  omega
end Go.Proofs.YtakejfhfkjnhlaaDoor.M
