/- Plain: a state of 25 words, and its round, as the two texts write it. Conditions: none. -/
import Derived.Test.YtakejfhfkjnhlaaDoorWordTurn
namespace Go.Proofs.YtakejfhfkjnhlaaDoor.M
open Go.RowKit Go.Proofs.YtakejfhfkjnhlaaDoorW.PrintWords Go.Proofs.YtakejfhfkjnhlaaDoorW.PrintMore
def W64 (x : Int) : Prop := 0 ≤ x ∧ x < 18446744073709551616
theorem W64_bits (op : BinOp) (a b : Int) : W64 (Go.bits op .u64 a b) := ⟨bits_lo_u64 op a b, by have := bits_hi_u64 op a b; omega⟩
theorem W64_nat (n : Nat) (h : n < 2 ^ 64) : W64 (n : Int) := ⟨by omega, by omega⟩
theorem xor_comm64 (a b : Int) : Go.bits .xor .u64 a b = Go.bits .xor .u64 b a := by
  simp only [Go.bits]
  rw [BitVec.xor_comm]
def AllW (l : List Int) : Prop := ∀ i : Int, W64 (rd l i)
theorem rd_nat (l : List Int) (i : Nat) : rd l (i : Int) = l[i]?.getD 0 := by
  unfold rd
  rw [Int.toNat_natCast, List.getD_eq_getElem?_getD]
theorem rd_set (l : List Int) (i j : Nat) (x : Int) (hi : i < l.length) : rd (l.set i x) (j : Int) = if j = i then x else rd l (j : Int) := by
  rw [rd_nat, rd_nat]
  by_cases h : j = i
  · subst h
    rw [if_pos rfl, List.getElem?_set_self hi]
    rfl
  · rw [if_neg h, List.getElem?_set_ne (Ne.symm h)]
theorem AllW_of {l : List Int} (h : ∀ x ∈ l, W64 x) : AllW l := by
  intro i
  unfold rd
  rw [List.getD_eq_getElem?_getD]
  cases h2 : l[i.toNat]? with
  | none => exact ⟨by decide, by decide⟩
  | some x => exact h x (List.mem_of_getElem? h2)
theorem AllW_mem {l : List Int} (h : AllW l) : ∀ x ∈ l, W64 x := by
  intro x hx
  obtain ⟨i, hi, rfl⟩ := List.mem_iff_getElem.1 hx
  have h2 := h (i : Int)
  rw [rd_nat, List.getElem?_eq_getElem hi] at h2
  exact h2
theorem AllW_set {l : List Int} (h : AllW l) (i : Nat) {x : Int} (hx : W64 x) : AllW (l.set i x) := by
  refine AllW_of fun y hy => ?_
  rcases List.mem_or_eq_of_mem_set hy with h1 | h1
  · exact AllW_mem h y h1
  · rw [h1]
    exact hx
theorem AllW_zero (n : Nat) : AllW (List.replicate n 0) := AllW_of fun x hx => by
  rw [List.eq_of_mem_replicate hx]
  exact ⟨by decide, by decide⟩
/-- what a loop lays -/
def bf (p : Nat → Nat) (v : Nat → Int) (l : List Int) : Nat → List Int
  | 0 => l
  | m + 1 => (bf p v l m).set (p m) (v m)
theorem bf_length (p v l) : ∀ m, (bf p v l m).length = l.length
  | 0 => rfl
  | m + 1 => by simp only [bf, List.length_set]; exact bf_length p v l m
theorem AllW_bf {p v} {l : List Int} (h : AllW l) (hv : ∀ m, W64 (v m)) : ∀ m, AllW (bf p v l m)
  | 0 => h
  | m + 1 => AllW_set (AllW_bf h hv m) _ (hv m)
def rotI (x : Int) (k : Nat) : Int := ((rotN x.toNat k : Nat) : Int)
theorem W64_rotI {x : Int} (h : W64 x) {k : Nat} (hk : k ≤ 64) : W64 (rotI x k) := W64_nat _ (rotN_lt _ _ (by have := h.1; have := h.2; omega) hk)
theorem rotI_zero {x : Int} (h : W64 x) : rotI x 0 = x := by
  unfold rotI
  rw [rotN_zero _ (by have := h.1; have := h.2; omega)]
  have := h.1
  omega
def tN : List Nat := [0, 1, 62, 28, 27, 36, 44, 6, 55, 20, 3, 10, 43, 25, 39, 41, 45, 15, 21, 8, 18, 2, 61, 56, 14]
def tAt (m : Nat) : Nat := tN.getD m 0
theorem tAt_lt (m : Nat) : tAt m < 64 := by
  unfold tAt
  rw [List.getD_eq_getElem?_getD]
  cases h : tN[m]? with
  | none => decide
  | some x =>
    have h2 : ∀ y ∈ tN, y < 64 := by decide
    exact h2 x (List.mem_of_getElem? h)
def rcL : List Int := [0x1, 0x8082, 0x800000000000808a, 0x8000000080008000, 0x808b, 0x80000001, 0x8000000080008081, 0x8000000000008009, 0x8a, 0x88, 0x80008009, 0x8000000a, 0x8000808b, 0x800000000000008b, 0x8000000000008089, 0x8000000000008003, 0x8000000000008002, 0x8000000000000080, 0x800a, 0x800000008000000a, 0x8000000080008081, 0x8000000000008080, 0x80000001, 0x8000000080008008]
def colV (s : List Int) (x : Nat) : Int := Go.bits .xor .u64 (Go.bits .xor .u64 (Go.bits .xor .u64 (Go.bits .xor .u64 (rd s (x : Int)) (rd s ((x + 5 : Nat) : Int))) (rd s ((x + 10 : Nat) : Int))) (rd s ((x + 15 : Nat) : Int))) (rd s ((x + 20 : Nat) : Int))
def colL (s : List Int) : List Int := bf id (colV s) (List.replicate 5 0) 5
def dV (c : List Int) (x : Nat) : Int := Go.bits .xor .u64 (rd c (((x + 4) % 5 : Nat) : Int)) (rotI (rd c (((x + 1) % 5 : Nat) : Int)) 1)
def bV (s c : List Int) (m : Nat) : Int := rotI (Go.bits .xor .u64 (rd s (m : Int)) (dV c (m % 5))) (tAt m)
def pI (m : Nat) : Nat := m / 5 + 5 * ((2 * (m % 5) + 3 * (m / 5)) % 5)
def pS (m : Nat) : Nat := m % 5 + 5 * ((2 * (m / 5) + 3 * (m % 5)) % 5)
def swp (m : Nat) : Nat := m / 5 + 5 * (m % 5)
def bL (s : List Int) : List Int := bf pI (bV s (colL s)) (List.replicate 25 0) 25
theorem bL_spec (v : Nat → Int) : bf pS (fun m => v (swp m)) (List.replicate 25 0) 25 = bf pI v (List.replicate 25 0) 25 := by
  kernel_rfl
def chiV (b : List Int) (m : Nat) : Int := Go.bits .xor .u64 (rd b (m : Int)) (Go.bits .and .u64 (Go.bits .xor .u64 18446744073709551615 (rd b (((m % 5 + 1) % 5 + 5 * (m / 5) : Nat) : Int))) (rd b (((m % 5 + 2) % 5 + 5 * (m / 5) : Nat) : Int)))
def chiL (s : List Int) : List Int := bf id (chiV (bL s)) s 25
/-- a round with its constant -/
def rndL (s : List Int) (rc : Int) : List Int := (chiL s).set 0 (Go.bits .xor .u64 (rd (chiL s) 0) rc)
def allL (s : List Int) : Nat → List Int
  | 0 => s
  | n + 1 => rndL (allL s n) (rd rcL (n : Int))
theorem chiL_length (s : List Int) : (chiL s).length = s.length := bf_length _ _ _ _
theorem rndL_length (s : List Int) (rc : Int) : (rndL s rc).length = s.length := by rw [rndL, List.length_set, chiL_length]
theorem allL_length (s : List Int) : ∀ n, (allL s n).length = s.length
  | 0 => rfl
  | n + 1 => by rw [allL, rndL_length, allL_length s n]
theorem AllW_col (s : List Int) : AllW (colL s) := AllW_bf (AllW_zero 5) (fun _ => W64_bits _ _ _) 5
theorem AllW_chi {s : List Int} (h : AllW s) : AllW (chiL s) := AllW_bf h (fun _ => W64_bits _ _ _) 25
theorem AllW_rnd {s : List Int} (h : AllW s) (rc : Int) : AllW (rndL s rc) := AllW_set (AllW_chi h) _ (W64_bits _ _ _)
theorem AllW_all {s : List Int} (h : AllW s) : ∀ n, AllW (allL s n)
  | 0 => h
  | n + 1 => AllW_rnd (AllW_all h n) _
/-- the word of eight bytes -/
def wordN (t : ByteArray) (at_ : Nat) : Nat := leV ((List.range 8).map fun j => (bt t ((at_ + j : Nat) : Int)).toNat)
theorem wordN_lt (t : ByteArray) (at_ : Nat) : wordN t at_ < 2 ^ 64 := by
  have h := leV_lt ((List.range 8).map fun j => (bt t ((at_ + j : Nat) : Int)).toNat) (fun b hb => by
    obtain ⟨j, _, rfl⟩ := List.mem_map.1 hb
    have := bt_range t ((at_ + j : Nat) : Int)
    omega)
  rw [List.length_map, List.length_range] at h
  exact Nat.lt_of_lt_of_le h (by decide)
def loadL (t : ByteArray) : List Int := bf id (fun i => ((wordN t (8 * i) : Nat) : Int)) (List.replicate 25 0) 25
theorem loadL_length (t : ByteArray) : (loadL t).length = 25 := by rw [loadL, bf_length, List.length_replicate]
theorem AllW_load (t : ByteArray) : AllW (loadL t) := AllW_bf (AllW_zero 25) (fun _ => W64_nat _ (wordN_lt _ _)) 25
/-- the bytes of a state -/
def textL (s : List Int) : List Int := s.flatMap fun w => (leB 8 w.toNat).map fun (b : Nat) => (b : Int)
theorem bf_range (v : Nat → Int) (n : Nat) : ∀ m, m ≤ n → bf id v (List.replicate n 0) m = (List.range m).map v ++ List.replicate (n - m) 0
  | 0, _ => by simp [bf]
  | m + 1, h => by
    have ih := bf_range v n m (by omega)
    simp only [bf, id]
    rw [ih, List.range_succ, List.map_append, List.set_append_right _ _ (by simp), show n - m = (n - (m + 1)) + 1 by omega, List.replicate_succ]
    simp
theorem bf_all (v : Nat → Int) (n : Nat) : bf id v (List.replicate n 0) n = (List.range n).map v := by
  rw [bf_range v n n (Nat.le_refl n)]
  simp
theorem flat_bytes (f : Nat → Nat) : ∀ n, ((List.range n).flatMap fun i => (leB 8 (f i)).map fun (b : Nat) => (b : Int)) = (List.range (8 * n)).map fun j => ((f (j / 8) / 256 ^ (j % 8) % 256 : Nat) : Int)
  | 0 => rfl
  | n + 1 => by
    rw [List.range_succ, List.flatMap_append, flat_bytes f n, show 8 * (n + 1) = 8 * n + 8 by omega, List.range_add, List.map_append]
    congr 1
    have e : ∀ j, j < 8 → (8 * n + j) / 8 = n ∧ (8 * n + j) % 8 = j := fun j hj => ⟨by omega, by omega⟩
    have r8 : List.range 8 = [0, 1, 2, 3, 4, 5, 6, 7] := rfl
    rw [r8]
    simp only [List.map_cons, List.map_nil, List.flatMap_cons, List.flatMap_nil, List.append_nil, (e 0 (by omega)).1, (e 1 (by omega)).1, (e 2 (by omega)).1, (e 3 (by omega)).1, (e 4 (by omega)).1, (e 5 (by omega)).1, (e 6 (by omega)).1, (e 7 (by omega)).1, (e 0 (by omega)).2, (e 1 (by omega)).2, (e 2 (by omega)).2, (e 3 (by omega)).2, (e 4 (by omega)).2, (e 5 (by omega)).2, (e 6 (by omega)).2, (e 7 (by omega)).2, leB, Nat.div_div_eq_div_mul]
    simp only [Nat.reducePow, Nat.reduceMul, Nat.div_one]
theorem rd_range (l : List Int) : l = (List.range l.length).map fun i => rd l ((i : Nat) : Int) := by
  apply List.ext_getElem?
  intro j
  rw [List.getElem?_map]
  by_cases h : j < l.length
  · rw [List.getElem?_range h, Option.map_some, rd_nat, List.getElem?_eq_getElem h]
    rfl
  · rw [List.getElem?_eq_none (by omega), List.getElem?_eq_none (by simp; omega)]
    rfl
theorem textL_range (l : List Int) : textL l = (List.range (8 * l.length)).map fun j => (((rd l ((j / 8 : Nat) : Int)).toNat / 256 ^ (j % 8) % 256 : Nat) : Int) := by
  unfold textL
  conv => lhs; rw [rd_range l, List.flatMap_map]
  exact flat_bytes (fun i => (rd l ((i : Nat) : Int)).toNat) l.length
end Go.Proofs.YtakejfhfkjnhlaaDoor.M
