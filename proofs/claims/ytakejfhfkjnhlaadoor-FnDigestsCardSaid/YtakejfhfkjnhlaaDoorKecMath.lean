/- Own texts in one (a claim bears at most 60 files): Mod, Crc, Var, Read, Word, WordTurn, Kec, Dot, DrawK, KecId, Pad. Conditions: none. -/
import Derived.RowKit
import Derived.Laws.BytesArg
import Derived.Laws.BitsLemmas
import Derived.Test.YtakejfhfkjnhlaaDoorWWords
import Derived.Test.YtakejfhfkjnhlaaDoorWMore
import Derived.Lib.Repeat
namespace Go.Proofs.YtakejfhfkjnhlaaDoor.M
open Go.RowKit
theorem emod_mul_l (a b m : Int) : a % m * b % m = a * b % m := by
  rw [Int.mul_emod, Int.emod_emod_of_dvd a (Int.dvd_refl m), ← Int.mul_emod]
theorem emod_mul_r (a b m : Int) : a * (b % m) % m = a * b % m := by
  rw [Int.mul_comm, emod_mul_l, Int.mul_comm]
theorem emod_pow (a m : Int) (n : Nat) : (a % m) ^ n % m = a ^ n % m := by
  induction n with
  | zero => simp
  | succ n ih => rw [Int.pow_succ, Int.pow_succ, emod_mul_r, ← emod_mul_l, ih, emod_mul_l]
theorem mul_pow_emod (a x m : Int) (n : Nat) : a * (x % m) ^ n % m = a * x ^ n % m := by
  rw [← emod_mul_r, emod_pow, emod_mul_r]
theorem pow_half (b : Int) (n : Nat) : b ^ n = b ^ (n % 2) * (b * b) ^ (n / 2) := by
  have e : (b * b) ^ (n / 2) = b ^ (2 * (n / 2)) := by
    rw [Int.pow_mul]
    congr 1
    rw [show (2 : Nat) = 1 + 1 from rfl, Int.pow_succ, Int.pow_succ, Int.pow_zero, Int.one_mul]
  rw [e, ← Int.pow_add]
  congr 1
  omega
/-- Go's remainder, out of the one that is never below 0. -/
theorem tm_eq (a m : Int) (h : 0 < m) : Int.tmod a m = a % m - if 0 ≤ a ∨ m ∣ a then 0 else m := by
  rw [Int.tmod_eq_emod]
  congr 1
  split <;> omega
theorem wrap_mul (x y m : Int) (hm : m ≤ 1000000) (hx : 0 ≤ x) (hx1 : x < m) (hy : 0 ≤ y) (hy1 : y < m) : wrap64 (x * y) = x * y := by
  have h0 := Int.mul_nonneg hx hy
  have h1 : x * y ≤ 1000000 * 1000000 := Int.mul_le_mul (by omega) (by omega) hy (by omega)
  unfold wrap64
  omega
theorem i64_bounds {n : Int} (h : (Lit.int .i64 n).wf = true) : -9223372036854775808 ≤ n ∧ n ≤ 9223372036854775807 := by
  simp only [Lit.wf, IntKind.min, IntKind.max, IntKind.signed, IntKind.bits, Bool.and_eq_true, decide_eq_true_eq, if_true] at h
  omega
/-- what FpRoot comes to -/
def rootOf (a : Int) : Int × Bool :=
  if a ^ 3027 % 12107 * (a ^ 3027 % 12107) % 12107 = a % 12107 then (if (0 - a ^ 3027 % 12107) % 12107 < a ^ 3027 % 12107 then (0 - a ^ 3027 % 12107) % 12107 else a ^ 3027 % 12107, true) else (0, false)
/-- what PointOk comes to -/
def okPoint (x y : Int) (z : Bool) : Bool :=
  if z = true then decide (x = 0 ∧ y = 0) else decide (0 ≤ x ∧ x < 12107 ∧ 0 ≤ y ∧ y < 12107 ∧ y * y % 12107 = (x * x * x + x) % 12107)
/-- what PointText comes to -/
def pointText (x y : Int) (z : Bool) : ByteArray :=
  if okPoint x y z = true then (if z = true then ⟨#[0, 0, 0]⟩ else strOfNums [wrap64 (x + 1) / 256 % 256, wrap64 (x + 1) % 256, Int.tmod y 2 % 256]) else ⟨#[]⟩
end Go.Proofs.YtakejfhfkjnhlaaDoor.M
namespace Go.Proofs.YtakejfhfkjnhlaaDoor.M
open Go.RowKit Go.Proofs.YtakejfhfkjnhlaaDoorW.PrintWords
def byteNs (s : ByteArray) : List Nat := s.data.toList.map (·.toNat)
theorem byteNs_length (s : ByteArray) : (byteNs s).length = s.size := by
  unfold byteNs
  rw [List.length_map, Array.length_toList]
  rfl
theorem byteNs_lt (s : ByteArray) : ∀ b ∈ byteNs s, b < 256 := by
  intro b hb
  obtain ⟨c, _, rfl⟩ := List.mem_map.1 hb
  exact c.toNat_lt
theorem bt_bytes (s : ByteArray) (i : Nat) (h : i < s.size) : bt s (i : Int) = (((byteNs s)[i]'(by rw [byteNs_length]; exact h) : Nat) : Int) := by
  unfold bt
  rw [dif_pos (by rw [Int.toNat_natCast]; exact h)]
  simp [byteNs]
  rfl
theorem byteNs_drop (s : ByteArray) (i : Nat) (h : i < s.size) : (byteNs s).drop i = (bt s (i : Int)).toNat :: (byteNs s).drop (i + 1) := by
  rw [List.drop_eq_getElem_cons (by rw [byteNs_length]; exact h), bt_bytes s i h, Int.toNat_natCast]
theorem bt_nat (s : ByteArray) (i : Int) : ((bt s i).toNat : Int) = bt s i ∧ (bt s i).toNat < 256 := by
  have := bt_range s i
  omega
theorem xor_nat (a b : Nat) (ha : a < 4294967296) (hb : b < 4294967296) : Go.bits .xor .u32 (a : Int) (b : Int) = ((a ^^^ b : Nat) : Int) := by
  show IntKind.u32.wrap ((BitVec.ofInt 32 (a : Int) ^^^ BitVec.ofInt 32 (b : Int)).toNat : Int) = _
  rw [BitVec.toNat_xor, BitVec.ofInt_natCast, BitVec.ofInt_natCast, BitVec.toNat_ofNat, BitVec.toNat_ofNat, Nat.mod_eq_of_lt (show a < 2 ^ 32 from ha), Nat.mod_eq_of_lt (show b < 2 ^ 32 from hb), IntKind.wrap_u32]
  have h := Nat.xor_lt_two_pow (n := 32) (x := a) (y := b) ha hb
  generalize a ^^^ b = c at h ⊢
  omega
theorem and_one (a : Nat) (ha : a < 4294967296) : Go.bits .and .u32 (a : Int) 1 = ((a % 2 : Nat) : Int) := by
  have h := bits_mask .u32 32 (by decide) (fun n h0 h1 => by rw [IntKind.wrap_u32]; omega) 1 (by omega) (a : Int) (by omega) (by omega)
  rw [show ((2 : Int) ^ 1 - 1) = 1 from rfl] at h
  rw [h]
  omega
def crcBit (x : Nat) : Nat := if x % 2 = 1 then (x / 2) ^^^ 3558460437 else x / 2
theorem crcBit_lt (x : Nat) (h : x < 4294967296) : crcBit x < 4294967296 := by
  unfold crcBit
  split
  · exact Nat.xor_lt_two_pow (n := 32) (by omega) (by omega)
  · omega
def crcBits : Nat → Nat → Nat
  | 0, x => x
  | d + 1, x => crcBits d (crcBit x)
theorem crcBits_lt : ∀ (d x : Nat), x < 4294967296 → crcBits d x < 4294967296
  | 0, _, h => h
  | d + 1, x, h => crcBits_lt d _ (crcBit_lt x h)
def crcByte (x b : Nat) : Nat := crcBits 8 (x ^^^ b)
theorem crcByte_lt (x b : Nat) (h : x < 4294967296) (hb : b < 256) : crcByte x b < 4294967296 :=
  crcBits_lt 8 _ (Nat.xor_lt_two_pow (n := 32) h (by omega))
def crcL (x : Nat) (l : List Nat) : Nat := l.foldl crcByte x
theorem crcL_lt : ∀ (l : List Nat) (x : Nat), x < 4294967296 → (∀ b ∈ l, b < 256) → crcL x l < 4294967296
  | [], _, h, _ => h
  | b :: l, x, h, hl => crcL_lt l _ (crcByte_lt x b h (hl b (by simp))) (fun c hc => hl c (by simp [hc]))
theorem u32_nat {n : Int} (h : (Lit.int .u32 n).wf = true) : ∃ a : Nat, n = (a : Int) ∧ a < 4294967296 := by
  simp [Lit.wf, IntKind.min, IntKind.max, IntKind.signed, IntKind.bits] at h
  exact ⟨n.toNat, by omega, by omega⟩
theorem wrap_nat' (i : Nat) (h : i ≤ 9000000000000000000) : wrap64 ((i : Int) + 1) = ((i + 1 : Nat) : Int) := by
  unfold wrap64
  omega
/-- four bytes, the highest first -/
def four (x : Nat) : ByteArray := strOfNums [((x : Int) / 16777216) % 256, ((x : Int) / 65536) % 256, ((x : Int) / 256) % 256, (x : Int) % 256]
theorem four_size (x : Nat) : (four x).size = 4 := strOfNums_size _
/-- what Unsealed comes to -/
def unsealedOf (s : ByteArray) : ByteArray × Bool :=
  if s.size < 4 ∨ s.size > 20004 ∨ ¬ (four (crcL 4294967295 (byteNs (s.extract 0 (s.size - 4))))).toList = (s.extract (s.size - 4) s.size).toList then (⟨#[]⟩, false) else (s.extract 0 (s.size - 4), true)
end Go.Proofs.YtakejfhfkjnhlaaDoor.M
namespace Go.Proofs.YtakejfhfkjnhlaaDoor.M
open Go.RowKit
def varL (n : Nat) : List Nat := if h : n > 127 then (n % 128 + 128) :: varL (n / 128) else [n]
termination_by n
decreasing_by omega
def varNums (n : Nat) : List Int := (varL n).map fun (b : Nat) => (b : Int)
theorem varL_small (n : Nat) (h : n < 128) : varL n = [n] := by
  unfold varL
  rw [dif_neg (by omega)]
theorem varL_great (n : Nat) (h : 127 < n) : varL n = (n % 128 + 128) :: varL (n / 128) := by
  rw [varL]
  rw [dif_pos (by omega)]
theorem varNums_small (n : Nat) (h : n < 128) : varNums n = [(n : Int)] := by
  unfold varNums
  rw [varL_small n h]
  rfl
theorem varNums_great (n : Nat) (h : 127 < n) : varNums n = ((n % 128 + 128 : Nat) : Int) :: varNums (n / 128) := by
  unfold varNums
  rw [varL_great n h]
  rfl
theorem varL_len : ∀ (d n : Nat), n < 128 ^ (d + 1) → (varL n).length ≤ d + 1 := by
  intro d
  induction d with
  | zero => intro n h; rw [varL_small n (by omega)]; simp
  | succ d ih =>
    intro n h
    by_cases hn : n < 128
    · rw [varL_small n hn]; simp
    · rw [varL_great n (by omega)]
      have := ih (n / 128) (by rw [Nat.pow_succ] at h; omega)
      simp
      omega
theorem varNums_len (n : Nat) (h : n ≤ 1000000000) : (varNums n).length ≤ 5 := by
  unfold varNums
  rw [List.length_map]
  exact varL_len 4 n (by omega)
end Go.Proofs.YtakejfhfkjnhlaaDoor.M
namespace Go.Proofs.YtakejfhfkjnhlaaDoor.M
open Go.RowKit Go.Proofs.YtakejfhfkjnhlaaDoorW.PrintWords
theorem toList_loop (s : ByteArray) : ∀ (d i : Nat) (r : List UInt8), i + d = s.size → ByteArray.toList.loop s i r = r.reverse ++ s.data.toList.drop i := by
  intro d
  induction d with
  | zero =>
    intro i r h
    unfold ByteArray.toList.loop
    rw [if_neg (by omega), List.drop_eq_nil_of_le (by rw [Array.length_toList]; show s.size ≤ i; omega), List.append_nil]
  | succ d ih =>
    intro i r h
    unfold ByteArray.toList.loop
    rw [if_pos (by omega), ih (i + 1) _ (by omega)]
    have hl : i < s.data.toList.length := by rw [Array.length_toList]; show i < s.size; omega
    rw [List.drop_eq_getElem_cons hl, List.reverse_cons, List.append_assoc]
    have e : s.get! i = s.data.toList[i] := by
      show s.data[i]! = _
      rw [getElem!_pos s.data i (by show i < s.size; omega)]
      simp
    rw [e]
    rfl
theorem toList_eq (s : ByteArray) : s.toList = s.data.toList := by
  have h := toList_loop s s.size 0 [] (by omega)
  simpa [ByteArray.toList] using h
theorem map_toNat_inj : ∀ (l m : List UInt8), l.map (·.toNat) = m.map (·.toNat) → l = m
  | [], [], _ => rfl
  | [], _ :: _, h => by simp at h
  | _ :: _, [], h => by simp at h
  | a :: l, b :: m, h => by
    simp only [List.map_cons, List.cons.injEq] at h
    rw [map_toNat_inj l m h.2, UInt8.toNat_inj.1 h.1]
theorem toList_iff (s t : ByteArray) : s.toList = t.toList ↔ byteNs s = byteNs t := by
  rw [toList_eq, toList_eq]
  exact ⟨fun h => by unfold byteNs; rw [h], fun h => map_toNat_inj _ _ h⟩
theorem byteNs_inj {s t : ByteArray} (h : byteNs s = byteNs t) : s = t := by
  have := map_toNat_inj _ _ h
  cases s; cases t
  simp only at this
  rw [Array.toList_inj.1 this]
theorem byteNs_extract (s : ByteArray) (a b : Nat) : byteNs (s.extract a b) = ((byteNs s).drop a).take (b - a) := by
  unfold byteNs
  rw [ByteArray.data_extract, Array.toList_extract, List.extract_eq_take_drop]
  simp
theorem byteNs_append (s t : ByteArray) : byteNs (s ++ t) = byteNs s ++ byteNs t := by
  unfold byteNs
  simp
theorem byteNs_str : ∀ (l : List Nat), (∀ x ∈ l, x < 256) → byteNs (strOfNums (l.map fun (b : Nat) => (b : Int))) = l := by
  intro l h
  unfold byteNs
  rw [strOfNums_data]
  simp only [List.map_map]
  induction l with
  | nil => rfl
  | cons a l ih =>
    rw [List.map_cons, ih (fun x hx => h x (by simp [hx]))]
    congr 1
    have := h a (by simp)
    simp
    omega
theorem varL_lt : ∀ (n : Nat), ∀ x ∈ varL n, x < 256 := by
  intro n
  induction n using Nat.strongRecOn with
  | _ n ih =>
    by_cases h : n < 128
    · rw [varL_small n h]
      intro x hx
      simp at hx
      omega
    · rw [varL_great n (by omega)]
      intro x hx
      rcases List.mem_cons.1 hx with rfl | hx
      · omega
      · exact ih (n / 128) (by omega) x hx
theorem byteNs_var (n : Nat) : byteNs (strOfNums (varNums n)) = varL n := byteNs_str _ (varL_lt n)
/-- the number of some bytes, the lowest first -/
def valL : List Nat → Nat
  | [] => 0
  | b :: l => b % 128 + 128 * valL l
theorem valL_snoc : ∀ (P : List Nat) (b : Nat), valL (P ++ [b]) = valL P + b % 128 * 128 ^ P.length
  | [], b => by simp [valL]
  | x :: P, b => by
    show x % 128 + 128 * valL (P ++ [b]) = x % 128 + 128 * valL P + b % 128 * 128 ^ (P.length + 1)
    rw [valL_snoc P b, Nat.pow_succ, Nat.mul_add, ← Nat.mul_assoc (b % 128), Nat.mul_comm 128 (b % 128 * 128 ^ P.length)]
    omega
theorem valL_lt : ∀ (P : List Nat), valL P < 128 ^ P.length
  | [] => by simp [valL]
  | x :: P => by
    show x % 128 + 128 * valL P < 128 ^ (P.length + 1)
    have := valL_lt P
    rw [Nat.pow_succ]
    omega
theorem varL_good : ∀ (P : List Nat) (b : Nat), (∀ x ∈ P, 128 ≤ x ∧ x < 256) → b < 128 → (P = [] ∨ b ≠ 0) → varL (valL (P ++ [b])) = P ++ [b] ∧ (b ≠ 0 → 0 < valL (P ++ [b])) := by
  intro P
  induction P with
  | nil =>
    intro b _ hb _
    have e : valL ([] ++ [b]) = b := by simp [valL]; omega
    rw [e]
    exact ⟨varL_small b hb, fun h => by omega⟩
  | cons x P ih =>
    intro b hP hb h
    have hb0 : b ≠ 0 := by
      rcases h with h | h
      · simp at h
      · exact h
    obtain ⟨h1, h2⟩ := ih b (fun y hy => hP y (by simp [hy])) hb (Or.inr hb0)
    have h3 := h2 hb0
    have hx := hP x (by simp)
    have e : valL (x :: P ++ [b]) = x % 128 + 128 * valL (P ++ [b]) := rfl
    rw [e]
    refine ⟨?_, fun _ => by omega⟩
    rw [varL_great _ (by omega), show (x % 128 + 128 * valL (P ++ [b])) / 128 = valL (P ++ [b]) by omega, h1, show (x % 128 + 128 * valL (P ++ [b])) % 128 + 128 = x by omega]
    rfl
theorem varL_last : ∀ (n : Nat), 0 < n → (varL n).getLast? ≠ some 0 := by
  intro n
  induction n using Nat.strongRecOn with
  | _ n ih =>
    intro hn
    by_cases h : n < 128
    · rw [varL_small n h]
      simp
      omega
    · rw [varL_great n (by omega)]
      have h2 := ih (n / 128) (by omega) (by omega)
      have hne : varL (n / 128) ≠ [] := by
        rw [varL]
        split <;> simp
      obtain ⟨a, t, ht⟩ := List.exists_cons_of_ne_nil hne
      rw [ht] at h2 ⊢
      rw [List.getLast?_cons_cons]
      exact h2
theorem varL_bad (P : List Nat) (hP : P ≠ []) : varL (valL (P ++ [0])) ≠ P ++ [0] := by
  intro h
  by_cases hn : valL (P ++ [0]) = 0
  · rw [hn, varL_small 0 (by omega)] at h
    have := congrArg List.length h
    obtain ⟨a, t, ht⟩ := List.exists_cons_of_ne_nil hP
    rw [ht] at this
    simp at this
  · have h2 := varL_last _ (Nat.pos_of_ne_zero hn)
    rw [h] at h2
    simp at h2
/-- the shortest form alone is read back -/
theorem varL_iff (P : List Nat) (b : Nat) (hP : ∀ x ∈ P, 128 ≤ x ∧ x < 256) (hb : b < 128) : varL (valL (P ++ [b])) = P ++ [b] ↔ ¬ (b = 0 ∧ 0 < P.length) := by
  constructor
  · rintro h ⟨rfl, h2⟩
    exact varL_bad P (by intro e; rw [e] at h2; simp at h2) h
  · intro h
    refine (varL_good P b hP hb ?_).1
    by_cases hz : b = 0
    · left
      cases P with
      | nil => rfl
      | cons a t => exact absurd ⟨hz, by simp⟩ h
    · exact Or.inr hz
/-- the walk over the bytes: how many rounds, the bytes that are left, the number till now, the next unit, how many bytes stand behind -/
def rvGo : Nat → List Nat → Nat → Nat → Nat → Option (Nat × Nat)
  | 0, _, _, _, _ => none
  | _ + 1, [], _, _, _ => none
  | f + 1, b :: l, n, u, i =>
    if 128 ≤ b then rvGo f l (n + b % 128 * u) (u * 128) (i + 1)
    else if (b = 0 ∧ 0 < i) ∨ 1000000000 < n + b % 128 * u then none else some (n + b % 128 * u, i + 1)
def rvFin (at_ : Nat) : Option (Nat × Nat) → Int × Int × Bool
  | none => (0, 0, false)
  | some (n, c) => ((n : Int), ((at_ + c : Nat) : Int), true)
/-- what ReadVar comes to -/
def readVarOf (s : ByteArray) (a : Int) : Int × Int × Bool :=
  if a < 0 ∨ (s.size : Int) < a then (0, 0, false) else rvFin a.toNat (rvGo 5 ((byteNs s).drop a.toNat) 0 1 0)
theorem pow128 (i : Nat) (h : i ≤ 4) : 128 ^ i ≤ 268435456 := by
  have := Nat.pow_le_pow_right (n := 128) (by omega) h
  simpa using this
theorem rv_arith (b u n : Nat) (hb : b < 256) (hu : u ≤ 268435456) (hn : n < u) :
    wrap64 (b : Int) = (b : Int) ∧ Int.tmod (b : Int) 128 = ((b % 128 : Nat) : Int) ∧ wrap64 (((b % 128 : Nat) : Int) * (u : Int)) = ((b % 128 * u : Nat) : Int) ∧
    wrap64 ((n : Int) + ((b % 128 * u : Nat) : Int)) = ((n + b % 128 * u : Nat) : Int) ∧ wrap64 ((u : Int) * 128) = ((u * 128 : Nat) : Int) ∧ n + b % 128 * u < u * 128 := by
  have hm : b % 128 * u ≤ 127 * u := Nat.mul_le_mul_right u (by omega)
  rw [← Int.natCast_mul, Int.tmod_eq_emod_of_nonneg (by omega)]
  generalize b % 128 * u = p at hm ⊢
  unfold wrap64
  omega
theorem rvGo_bounds : ∀ (f : Nat) (l : List Nat) (n u i : Nat) (r c : Nat), rvGo f l n u i = some (r, c) → r ≤ 1000000000 ∧ i < c ∧ c ≤ i + l.length
  | 0, _, _, _, _, _, _, h => by simp [rvGo] at h
  | _ + 1, [], _, _, _, _, _, h => by simp [rvGo] at h
  | f + 1, b :: l, n, u, i, r, c, h => by
    simp only [rvGo] at h
    split at h
    · have := rvGo_bounds f l _ _ _ r c h
      simp
      omega
    · split at h
      · simp at h
      · simp only [Option.some.injEq, Prod.mk.injEq] at h
        simp
        omega
theorem readVarOf_bounds (s : ByteArray) (a : Int) (h : (readVarOf s a).2.2 = true) : 0 ≤ (readVarOf s a).1 ∧ (readVarOf s a).1 ≤ 1000000000 ∧ 0 ≤ (readVarOf s a).2.1 ∧ (readVarOf s a).2.1 ≤ s.size := by
  unfold readVarOf at h ⊢
  split at h
  · simp at h
  · rename_i h1
    rw [if_neg h1]
    revert h
    cases hr : rvGo 5 ((byteNs s).drop a.toNat) 0 1 0 with
    | none => intro h; simp [rvFin] at h
    | some p =>
      obtain ⟨r, c⟩ := p
      have hb := rvGo_bounds _ _ _ _ _ r c hr
      rw [List.length_drop, byteNs_length] at hb
      intro _
      simp only [rvFin]
      omega
/-- what ReadShort comes to -/
def readShortOf (s : ByteArray) (a : Int) : ByteArray × Int × Bool :=
  if (readVarOf s a).2.2 = false ∨ (readVarOf s a).1 > 20000 ∨ (readVarOf s a).1 > (s.size : Int) - (readVarOf s a).2.1 then (⟨#[]⟩, 0, false)
  else (s.extract (readVarOf s a).2.1.toNat ((readVarOf s a).2.1 + (readVarOf s a).1).toNat, (readVarOf s a).2.1 + (readVarOf s a).1, true)
end Go.Proofs.YtakejfhfkjnhlaaDoor.M
namespace Go.Proofs.YtakejfhfkjnhlaaDoor.M
open Go.RowKit Go.Proofs.YtakejfhfkjnhlaaDoorW.PrintWords Go.Proofs.YtakejfhfkjnhlaaDoorW.PrintMore
theorem u64_id (n : Int) (h0 : 0 ≤ n) (h1 : n < 2 ^ 64) : IntKind.u64.wrap n = n := by
  simp [IntKind.wrap, IntKind.bits, IntKind.signed]
  exact Int.emod_eq_of_lt h0 h1
theorem u64_mod (n : Int) : IntKind.u64.wrap n = n % 18446744073709551616 := by
  simp [IntKind.wrap, IntKind.bits, IntKind.signed]
/-- a number of bytes, the lowest first -/
def leV : List Nat → Nat
  | [] => 0
  | b :: l => b + 256 * leV l
def leB : Nat → Nat → List Nat
  | 0, _ => []
  | d + 1, x => x % 256 :: leB d (x / 256)
theorem leV_lt : ∀ (l : List Nat), (∀ b ∈ l, b < 256) → leV l < 256 ^ l.length
  | [], _ => by simp [leV]
  | b :: l, h => by
    have h1 := leV_lt l (fun c hc => h c (by simp [hc]))
    have h2 := h b (by simp)
    show b + 256 * leV l < 256 ^ (l.length + 1)
    rw [Nat.pow_succ]
    omega
theorem leB_leV : ∀ (l : List Nat), (∀ b ∈ l, b < 256) → leB l.length (leV l) = l
  | [], _ => rfl
  | b :: l, h => by
    have h2 := h b (by simp)
    show (b + 256 * leV l) % 256 :: leB l.length ((b + 256 * leV l) / 256) = b :: l
    rw [show (b + 256 * leV l) % 256 = b by omega, show (b + 256 * leV l) / 256 = leV l by omega, leB_leV l (fun c hc => h c (by simp [hc]))]
theorem leB_length : ∀ (d x : Nat), (leB d x).length = d
  | 0, _ => rfl
  | d + 1, x => by simp [leB, leB_length d]
theorem leB_lt : ∀ (d x : Nat), ∀ b ∈ leB d x, b < 256
  | 0, _, b, h => by simp [leB] at h
  | d + 1, x, b, h => by
    simp only [leB, List.mem_cons] at h
    rcases h with rfl | h
    · omega
    · exact leB_lt d _ b h
theorem leV_leB : ∀ (d x : Nat), x < 256 ^ d → leV (leB d x) = x
  | 0, x, h => by simp at h; simp [leB, leV, h]
  | d + 1, x, h => by
    rw [Nat.pow_succ] at h
    show x % 256 + 256 * leV (leB d (x / 256)) = x
    rw [leV_leB d (x / 256) (by omega)]
    omega
theorem leV_snoc : ∀ (l : List Nat) (b : Nat), leV (l ++ [b]) = leV l + b * 256 ^ l.length
  | [], b => by simp [leV]
  | x :: l, b => by
    show x + 256 * leV (l ++ [b]) = x + 256 * leV l + b * 256 ^ (l.length + 1)
    rw [leV_snoc l b, Nat.pow_succ, Nat.mul_add, Nat.mul_comm 256 (b * 256 ^ l.length), Nat.mul_assoc]
    omega
theorem or_byte (n b : Nat) (hn : n < 72057594037927936) (hb : b < 256) : Go.bits .or .u64 (IntKind.u64.wrap ((n : Int) * 256)) (IntKind.u64.wrap (b : Int)) = ((n * 256 + b : Nat) : Int) := by
  rw [u64_id _ (by omega) (by omega), u64_id _ (by omega) (by omega)]
  rw [bits_join .u64 64 (by decide) (fun m h0 h1 => u64_id m h0 h1) 8 _ _ (by omega) (by omega) (by omega) (by omega) (by omega) (by omega)]
  omega
/-- a word turned to the left -/
def rotN (x k : Nat) : Nat := x * 2 ^ k % 2 ^ 64 + x / 2 ^ (64 - k)
theorem mad_mod {a b m : Nat} (h : b < m) : (a * m + b) % m = b := by rw [Nat.mul_comm, Nat.mul_add_mod, Nat.mod_eq_of_lt h]
theorem mad_div {a b m : Nat} (h : b < m) : (a * m + b) / m = a := by rw [Nat.mul_comm, Nat.mul_add_div (by omega), Nat.div_eq_of_lt h, Nat.add_zero]
theorem rot_parts (x k : Nat) (hx : x < 2 ^ 64) (hk : k ≤ 64) : ∃ a b, x = a * 2 ^ (64 - k) + b ∧ a < 2 ^ k ∧ b < 2 ^ (64 - k) ∧ rotN x k = b * 2 ^ k + a := by
  have hp : 2 ^ 64 = 2 ^ (64 - k) * 2 ^ k := by rw [← Nat.pow_add]; congr 1; omega
  have h1 : 0 < 2 ^ (64 - k) := Nat.two_pow_pos _
  have h2 : 0 < 2 ^ k := Nat.two_pow_pos _
  refine ⟨x / 2 ^ (64 - k), x % 2 ^ (64 - k), (Nat.div_add_mod' x _).symm, ?_, Nat.mod_lt _ h1, ?_⟩
  · rw [Nat.div_lt_iff_lt_mul h1, Nat.mul_comm, ← hp]
    exact hx
  · unfold rotN
    congr 1
    rw [hp, Nat.mul_mod_mul_right]
theorem rotN_lt (x k : Nat) (hx : x < 2 ^ 64) (hk : k ≤ 64) : rotN x k < 2 ^ 64 := by
  obtain ⟨a, b, _, ha, hb, e⟩ := rot_parts x k hx hk
  rw [e]
  have hp : 2 ^ 64 = 2 ^ (64 - k) * 2 ^ k := by rw [← Nat.pow_add]; congr 1; omega
  rw [hp]
  have h : (b + 1) * 2 ^ k ≤ 2 ^ (64 - k) * 2 ^ k := Nat.mul_le_mul_right _ hb
  rw [Nat.add_mul, Nat.one_mul] at h
  omega
/-- turned on, and back -/
theorem rotN_back (x k : Nat) (hx : x < 2 ^ 64) (hk : k ≤ 64) : rotN (rotN x k) (64 - k) = x := by
  obtain ⟨a, b, e0, ha, hb, e⟩ := rot_parts x k hx hk
  have hp : 2 ^ 64 = 2 ^ k * 2 ^ (64 - k) := by rw [← Nat.pow_add]; congr 1; omega
  rw [e]
  unfold rotN
  rw [show 64 - (64 - k) = k by omega, hp, Nat.mul_mod_mul_right, mad_mod ha, mad_div ha, ← e0]
theorem rotN_zero (x : Nat) (hx : x < 2 ^ 64) : rotN x 0 = x := by
  unfold rotN
  simp
  omega
/-- what Go's two shifts, put together, come to -/
theorem rot_int (x k : Nat) (hx : x < 2 ^ 64) (hk : k < 64) : Go.bits .or .u64 (shl .u64 (x : Int) (k : Int)) (shr .u64 (x : Int) (IntKind.u64.wrap (64 - (k : Int)))) = ((rotN x k : Nat) : Int) := by
  have e1 : shl .u64 (x : Int) (k : Int) = ((x * 2 ^ k % 2 ^ 64 : Nat) : Int) := by
    unfold shl
    rw [Int.toNat_natCast, Nat.min_eq_left (show k ≤ IntKind.u64.bits by show k ≤ 64; omega), u64_mod]
    rw [Int.natCast_emod, Int.natCast_mul, Int.natCast_pow]
    rfl
  have e2 : shr .u64 (x : Int) (IntKind.u64.wrap (64 - (k : Int))) = ((x / 2 ^ (64 - k) : Nat) : Int) := by
    rw [u64_id _ (by omega) (by omega)]
    unfold shr
    rw [show (64 - (k : Int)).toNat = 64 - k by omega, Nat.min_eq_left (show 64 - k ≤ IntKind.u64.bits by show 64 - k ≤ 64; omega)]
    rw [Int.natCast_ediv, Int.natCast_pow]
    rfl
  rw [e1, e2]
  obtain ⟨a, b, e0, ha, hb, e⟩ := rot_parts x k hx (by omega)
  have hp : 2 ^ 64 = 2 ^ (64 - k) * 2 ^ k := by rw [← Nat.pow_add]; congr 1; omega
  have ea : x / 2 ^ (64 - k) = a := by
    rw [e0, mad_div hb]
  have eb : x * 2 ^ k % 2 ^ 64 = b * 2 ^ k := by
    have h2 : rotN x k = x * 2 ^ k % 2 ^ 64 + x / 2 ^ (64 - k) := rfl
    rw [h2, ea] at e
    omega
  have hlt := rotN_lt x k hx (by omega)
  rw [e] at hlt
  rw [ea, eb]
  have hbig : (2 : Int) ^ 64 = ((2 ^ 64 : Nat) : Int) := by rw [Int.natCast_pow]; rfl
  have ka : (a : Int) < 2 ^ k := by
    have : ((2 ^ k : Nat) : Int) = (2 : Int) ^ k := by rw [Int.natCast_pow]; rfl
    rw [← this]
    exact_mod_cast ha
  have kd : ((b * 2 ^ k : Nat) : Int) % 2 ^ k = 0 := by
    rw [Int.natCast_mul, Int.natCast_pow]
    exact Int.mul_emod_left _ _
  have k1 : ((b * 2 ^ k : Nat) : Int) < 2 ^ 64 := by
    rw [hbig]
    exact_mod_cast (by omega)
  have k2 : (a : Int) < 2 ^ 64 := by
    rw [hbig]
    exact_mod_cast (by omega)
  rw [bits_join .u64 64 (by decide) (fun m h0 h1 => u64_id m h0 h1) k _ _ (by omega) kd k1 (by omega) ka k2, e]
  omega
end Go.Proofs.YtakejfhfkjnhlaaDoor.M
namespace Go.Proofs.YtakejfhfkjnhlaaDoor.M
open Go.RowKit Go.Proofs.YtakejfhfkjnhlaaDoorW.PrintWords Go.Proofs.YtakejfhfkjnhlaaDoorW.PrintMore
theorem and_63 (a : Nat) (ha : a < 18446744073709551616) : Go.bits .and .u64 (a : Int) 63 = ((a % 64 : Nat) : Int) := by
  have h := bits_mask .u64 64 (by decide) (fun m h0 h1 => u64_id m h0 h1) 6 (by omega) (a : Int) (by omega) (by omega)
  rw [show ((2 : Int) ^ 6 - 1) = 63 from rfl] at h
  rw [h]
  omega
theorem shr_byte (x i : Nat) (hi : i < 8) : shr .u64 (x : Int) (IntKind.u64.wrap (8 * IntKind.u64.wrap (i : Int))) = ((x / 256 ^ i : Nat) : Int) := by
  rw [u64_id (i : Int) (by omega) (by omega), u64_id (8 * (i : Int)) (by omega) (by omega)]
  unfold shr
  rw [show (8 * (i : Int)).toNat = 8 * i by omega, Nat.min_eq_left (show 8 * i ≤ IntKind.u64.bits by show 8 * i ≤ 64; omega), show (256 : Nat) = 2 ^ 8 from rfl, ← Nat.pow_mul, Int.natCast_ediv, Int.natCast_pow]
  rfl
theorem byteNs_word (s : ByteArray) (hs : s.size = 8) : leB 8 (leV (byteNs s)) = byteNs s := by
  have h := leB_leV (byteNs s) (byteNs_lt s)
  rw [byteNs_length, hs] at h
  exact h
theorem leV_word (s : ByteArray) (hs : s.size = 8) : leV (byteNs s) < 2 ^ 64 := by
  have h := leV_lt (byteNs s) (byteNs_lt s)
  rw [byteNs_length, hs] at h
  exact h
theorem leV_drop (s : ByteArray) (hs : s.size = 8) (j : Nat) (hj : j < 8) : leV ((byteNs s).drop (j + 1)) < 72057594037927936 := by
  have h := leV_lt ((byteNs s).drop (j + 1)) (fun b hb => byteNs_lt s b (List.mem_of_mem_drop hb))
  rw [List.length_drop, byteNs_length, hs] at h
  have h2 : 256 ^ (8 - (j + 1)) ≤ 256 ^ 7 := Nat.pow_le_pow_right (by decide) (by omega)
  exact Nat.lt_of_lt_of_le h (by simpa using h2)
theorem str_word (s : ByteArray) (hs : s.size = 8) : strOfNums ((leB 8 (leV (byteNs s))).map fun (b : Nat) => (b : Int)) = s := by
  rw [byteNs_word s hs]
  exact byteNs_inj (byteNs_str _ (byteNs_lt s))
end Go.Proofs.YtakejfhfkjnhlaaDoor.M
namespace Go.Proofs.YtakejfhfkjnhlaaDoor.M
open Go.RowKit Go.Proofs.YtakejfhfkjnhlaaDoorW.PrintWords Go.Proofs.YtakejfhfkjnhlaaDoorW.PrintMore
def W64 (x : Int) : Prop := 0 ≤ x ∧ x < 18446744073709551616
theorem W64_bits (op : BinOp) (a b : Int) : W64 (Go.bits op .u64 a b) := ⟨bits_lo_u64 op a b, by have := bits_hi_u64 op a b; omega⟩
theorem W64_nat (n : Nat) (h : n < 2 ^ 64) : W64 (n : Int) := ⟨by omega, by omega⟩
theorem xor_comm64 (a b : Int) : Go.bits .xor .u64 a b = Go.bits .xor .u64 b a := by
  simp only [Go.bits]
  rw [BitVec.xor_comm]
def AllW (l : List Int) : Prop := ∀ i : Int, W64 (rd l i)
theorem rd_nat (l : List Int) (i : Nat) : rd l (i : Int) = l[i]?.getD 0 := by
  unfold rd
  rw [Int.toNat_natCast, List.getD_eq_getElem?_getD]
theorem rd_set (l : List Int) (i j : Nat) (x : Int) (hi : i < l.length) : rd (l.set i x) (j : Int) = if j = i then x else rd l (j : Int) := by
  rw [rd_nat, rd_nat]
  by_cases h : j = i
  · subst h
    rw [if_pos rfl, List.getElem?_set_self hi]
    rfl
  · rw [if_neg h, List.getElem?_set_ne (Ne.symm h)]
theorem AllW_of {l : List Int} (h : ∀ x ∈ l, W64 x) : AllW l := by
  intro i
  unfold rd
  rw [List.getD_eq_getElem?_getD]
  cases h2 : l[i.toNat]? with
  | none => exact ⟨by decide, by decide⟩
  | some x => exact h x (List.mem_of_getElem? h2)
theorem AllW_mem {l : List Int} (h : AllW l) : ∀ x ∈ l, W64 x := by
  intro x hx
  obtain ⟨i, hi, rfl⟩ := List.mem_iff_getElem.1 hx
  have h2 := h (i : Int)
  rw [rd_nat, List.getElem?_eq_getElem hi] at h2
  exact h2
theorem AllW_set {l : List Int} (h : AllW l) (i : Nat) {x : Int} (hx : W64 x) : AllW (l.set i x) := by
  refine AllW_of fun y hy => ?_
  rcases List.mem_or_eq_of_mem_set hy with h1 | h1
  · exact AllW_mem h y h1
  · rw [h1]
    exact hx
theorem AllW_zero (n : Nat) : AllW (List.replicate n 0) := AllW_of fun x hx => by
  rw [List.eq_of_mem_replicate hx]
  exact ⟨by decide, by decide⟩
/-- what a loop lays -/
def bf (p : Nat → Nat) (v : Nat → Int) (l : List Int) : Nat → List Int
  | 0 => l
  | m + 1 => (bf p v l m).set (p m) (v m)
theorem bf_length (p v l) : ∀ m, (bf p v l m).length = l.length
  | 0 => rfl
  | m + 1 => by simp only [bf, List.length_set]; exact bf_length p v l m
theorem AllW_bf {p v} {l : List Int} (h : AllW l) (hv : ∀ m, W64 (v m)) : ∀ m, AllW (bf p v l m)
  | 0 => h
  | m + 1 => AllW_set (AllW_bf h hv m) _ (hv m)
def rotI (x : Int) (k : Nat) : Int := ((rotN x.toNat k : Nat) : Int)
theorem W64_rotI {x : Int} (h : W64 x) {k : Nat} (hk : k ≤ 64) : W64 (rotI x k) := W64_nat _ (rotN_lt _ _ (by have := h.1; have := h.2; omega) hk)
theorem rotI_zero {x : Int} (h : W64 x) : rotI x 0 = x := by
  unfold rotI
  rw [rotN_zero _ (by have := h.1; have := h.2; omega)]
  have := h.1
  omega
def tN : List Nat := [0, 1, 62, 28, 27, 36, 44, 6, 55, 20, 3, 10, 43, 25, 39, 41, 45, 15, 21, 8, 18, 2, 61, 56, 14]
def tAt (m : Nat) : Nat := tN.getD m 0
theorem tAt_lt (m : Nat) : tAt m < 64 := by
  unfold tAt
  rw [List.getD_eq_getElem?_getD]
  cases h : tN[m]? with
  | none => decide
  | some x =>
    have h2 : ∀ y ∈ tN, y < 64 := by decide
    exact h2 x (List.mem_of_getElem? h)
def rcL : List Int := [0x1, 0x8082, 0x800000000000808a, 0x8000000080008000, 0x808b, 0x80000001, 0x8000000080008081, 0x8000000000008009, 0x8a, 0x88, 0x80008009, 0x8000000a, 0x8000808b, 0x800000000000008b, 0x8000000000008089, 0x8000000000008003, 0x8000000000008002, 0x8000000000000080, 0x800a, 0x800000008000000a, 0x8000000080008081, 0x8000000000008080, 0x80000001, 0x8000000080008008]
def colV (s : List Int) (x : Nat) : Int := Go.bits .xor .u64 (Go.bits .xor .u64 (Go.bits .xor .u64 (Go.bits .xor .u64 (rd s (x : Int)) (rd s ((x + 5 : Nat) : Int))) (rd s ((x + 10 : Nat) : Int))) (rd s ((x + 15 : Nat) : Int))) (rd s ((x + 20 : Nat) : Int))
def colL (s : List Int) : List Int := bf id (colV s) (List.replicate 5 0) 5
def dV (c : List Int) (x : Nat) : Int := Go.bits .xor .u64 (rd c (((x + 4) % 5 : Nat) : Int)) (rotI (rd c (((x + 1) % 5 : Nat) : Int)) 1)
def bV (s c : List Int) (m : Nat) : Int := rotI (Go.bits .xor .u64 (rd s (m : Int)) (dV c (m % 5))) (tAt m)
def pI (m : Nat) : Nat := m / 5 + 5 * ((2 * (m % 5) + 3 * (m / 5)) % 5)
def pS (m : Nat) : Nat := m % 5 + 5 * ((2 * (m / 5) + 3 * (m % 5)) % 5)
def swp (m : Nat) : Nat := m / 5 + 5 * (m % 5)
def bL (s : List Int) : List Int := bf pI (bV s (colL s)) (List.replicate 25 0) 25
theorem bL_spec (v : Nat → Int) : bf pS (fun m => v (swp m)) (List.replicate 25 0) 25 = bf pI v (List.replicate 25 0) 25 := by
  kernel_rfl
def chiV (b : List Int) (m : Nat) : Int := Go.bits .xor .u64 (rd b (m : Int)) (Go.bits .and .u64 (Go.bits .xor .u64 18446744073709551615 (rd b (((m % 5 + 1) % 5 + 5 * (m / 5) : Nat) : Int))) (rd b (((m % 5 + 2) % 5 + 5 * (m / 5) : Nat) : Int)))
def chiL (s : List Int) : List Int := bf id (chiV (bL s)) s 25
/-- a round with its constant -/
def rndL (s : List Int) (rc : Int) : List Int := (chiL s).set 0 (Go.bits .xor .u64 (rd (chiL s) 0) rc)
def allL (s : List Int) : Nat → List Int
  | 0 => s
  | n + 1 => rndL (allL s n) (rd rcL (n : Int))
theorem chiL_length (s : List Int) : (chiL s).length = s.length := bf_length _ _ _ _
theorem rndL_length (s : List Int) (rc : Int) : (rndL s rc).length = s.length := by rw [rndL, List.length_set, chiL_length]
theorem allL_length (s : List Int) : ∀ n, (allL s n).length = s.length
  | 0 => rfl
  | n + 1 => by rw [allL, rndL_length, allL_length s n]
theorem AllW_col (s : List Int) : AllW (colL s) := AllW_bf (AllW_zero 5) (fun _ => W64_bits _ _ _) 5
theorem AllW_chi {s : List Int} (h : AllW s) : AllW (chiL s) := AllW_bf h (fun _ => W64_bits _ _ _) 25
theorem AllW_rnd {s : List Int} (h : AllW s) (rc : Int) : AllW (rndL s rc) := AllW_set (AllW_chi h) _ (W64_bits _ _ _)
theorem AllW_all {s : List Int} (h : AllW s) : ∀ n, AllW (allL s n)
  | 0 => h
  | n + 1 => AllW_rnd (AllW_all h n) _
/-- the word of eight bytes -/
def wordN (t : ByteArray) (at_ : Nat) : Nat := leV ((List.range 8).map fun j => (bt t ((at_ + j : Nat) : Int)).toNat)
theorem wordN_lt (t : ByteArray) (at_ : Nat) : wordN t at_ < 2 ^ 64 := by
  have h := leV_lt ((List.range 8).map fun j => (bt t ((at_ + j : Nat) : Int)).toNat) (fun b hb => by
    obtain ⟨j, _, rfl⟩ := List.mem_map.1 hb
    have := bt_range t ((at_ + j : Nat) : Int)
    omega)
  rw [List.length_map, List.length_range] at h
  exact Nat.lt_of_lt_of_le h (by decide)
def loadL (t : ByteArray) : List Int := bf id (fun i => ((wordN t (8 * i) : Nat) : Int)) (List.replicate 25 0) 25
theorem loadL_length (t : ByteArray) : (loadL t).length = 25 := by rw [loadL, bf_length, List.length_replicate]
theorem AllW_load (t : ByteArray) : AllW (loadL t) := AllW_bf (AllW_zero 25) (fun _ => W64_nat _ (wordN_lt _ _)) 25
/-- the bytes of a state -/
def textL (s : List Int) : List Int := s.flatMap fun w => (leB 8 w.toNat).map fun (b : Nat) => (b : Int)
theorem bf_range (v : Nat → Int) (n : Nat) : ∀ m, m ≤ n → bf id v (List.replicate n 0) m = (List.range m).map v ++ List.replicate (n - m) 0
  | 0, _ => by simp [bf]
  | m + 1, h => by
    have ih := bf_range v n m (by omega)
    simp only [bf, id]
    rw [ih, List.range_succ, List.map_append, List.set_append_right _ _ (by simp), show n - m = (n - (m + 1)) + 1 by omega, List.replicate_succ]
    simp
theorem bf_all (v : Nat → Int) (n : Nat) : bf id v (List.replicate n 0) n = (List.range n).map v := by
  rw [bf_range v n n (Nat.le_refl n)]
  simp
theorem flat_bytes (f : Nat → Nat) : ∀ n, ((List.range n).flatMap fun i => (leB 8 (f i)).map fun (b : Nat) => (b : Int)) = (List.range (8 * n)).map fun j => ((f (j / 8) / 256 ^ (j % 8) % 256 : Nat) : Int)
  | 0 => rfl
  | n + 1 => by
    rw [List.range_succ, List.flatMap_append, flat_bytes f n, show 8 * (n + 1) = 8 * n + 8 by omega, List.range_add, List.map_append]
    congr 1
    have e : ∀ j, j < 8 → (8 * n + j) / 8 = n ∧ (8 * n + j) % 8 = j := fun j hj => ⟨by omega, by omega⟩
    have r8 : List.range 8 = [0, 1, 2, 3, 4, 5, 6, 7] := rfl
    rw [r8]
    simp only [List.map_cons, List.map_nil, List.flatMap_cons, List.flatMap_nil, List.append_nil, (e 0 (by omega)).1, (e 1 (by omega)).1, (e 2 (by omega)).1, (e 3 (by omega)).1, (e 4 (by omega)).1, (e 5 (by omega)).1, (e 6 (by omega)).1, (e 7 (by omega)).1, (e 0 (by omega)).2, (e 1 (by omega)).2, (e 2 (by omega)).2, (e 3 (by omega)).2, (e 4 (by omega)).2, (e 5 (by omega)).2, (e 6 (by omega)).2, (e 7 (by omega)).2, leB, Nat.div_div_eq_div_mul]
    simp only [Nat.reducePow, Nat.reduceMul, Nat.div_one]
theorem rd_range (l : List Int) : l = (List.range l.length).map fun i => rd l ((i : Nat) : Int) := by
  apply List.ext_getElem?
  intro j
  rw [List.getElem?_map]
  by_cases h : j < l.length
  · rw [List.getElem?_range h, Option.map_some, rd_nat, List.getElem?_eq_getElem h]
    rfl
  · rw [List.getElem?_eq_none (by omega), List.getElem?_eq_none (by simp; omega)]
    rfl
theorem textL_range (l : List Int) : textL l = (List.range (8 * l.length)).map fun j => (((rd l ((j / 8 : Nat) : Int)).toNat / 256 ^ (j % 8) % 256 : Nat) : Int) := by
  unfold textL
  conv => lhs; rw [rd_range l, List.flatMap_map]
  exact flat_bytes (fun i => (rd l ((i : Nat) : Int)).toNat) l.length
end Go.Proofs.YtakejfhfkjnhlaaDoor.M
namespace Go.Proofs.YtakejfhfkjnhlaaDoor.M
def dotN (a b : List Int) : Nat → Nat → Int → Int
  | 0, _, acc => acc
  | d + 1, i, acc => dotN a b d (i + 1) ((acc + a.getD i 0 * b.getD i 0 % 1009) % 1009)
theorem wrap_nat (i : Nat) (h : i ≤ 9000000000000000000) : Go.RowKit.wrap64 ((i : Int) + 1) = ((i + 1 : Nat) : Int) := by
  unfold Go.RowKit.wrap64
  omega
end Go.Proofs.YtakejfhfkjnhlaaDoor.M
namespace Go.Proofs.YtakejfhfkjnhlaaDoor.M
open Go.RowKit
theorem and255 (y : Int) : 0 ≤ Go.bits .and .i64 y 255 ∧ Go.bits .and .i64 y 255 ≤ 255 := by
  show 0 ≤ IntKind.i64.wrap ((BitVec.ofInt 64 y &&& BitVec.ofInt 64 255).toNat : Int) ∧ IntKind.i64.wrap ((BitVec.ofInt 64 y &&& BitVec.ofInt 64 255).toNat : Int) ≤ 255
  rw [BitVec.toNat_and, IntKind.wrap_i64]
  have h : (BitVec.ofInt 64 y).toNat &&& (BitVec.ofInt 64 255).toNat ≤ (BitVec.ofInt 64 255).toNat := Nat.and_le_right
  rw [show (BitVec.ofInt 64 255).toNat = 255 from rfl] at h ⊢
  omega
def IsInt (x : Int) : Prop := -9223372036854775808 ≤ x ∧ x ≤ 9223372036854775807
theorem wrap_isInt (x : Int) : IsInt (wrap64 x) := by
  unfold IsInt wrap64
  omega
theorem lit_isInt (x : Int) (h : -9223372036854775808 ≤ x) (k : x ≤ 9223372036854775807) : IsInt x := ⟨h, k⟩
end Go.Proofs.YtakejfhfkjnhlaaDoor.M
namespace Go.Proofs.YtakejfhfkjnhlaaDoor.M
open Go.RowKit Go.Proofs.YtakejfhfkjnhlaaDoorW.PrintWords Go.Proofs.YtakejfhfkjnhlaaDoorW.PrintMore
theorem leB8 (x : Nat) : leB 8 x = (List.range 8).map fun j => x / 256 ^ j % 256 := by
  simp [leB, List.range_succ, Nat.div_div_eq_div_mul]
theorem byteNs_text (l : List Int) : byteNs (strOfNums (textL l)) = (List.range (8 * l.length)).map fun j => (rd l ((j / 8 : Nat) : Int)).toNat / 256 ^ (j % 8) % 256 := by
  rw [textL_range, show ((List.range (8 * l.length)).map fun j => (((rd l ((j / 8 : Nat) : Int)).toNat / 256 ^ (j % 8) % 256 : Nat) : Int)) = ((List.range (8 * l.length)).map fun j => (rd l ((j / 8 : Nat) : Int)).toNat / 256 ^ (j % 8) % 256).map (fun (b : Nat) => (b : Int)) by rw [List.map_map]; rfl]
  apply byteNs_str
  intro x hx
  obtain ⟨j, _, rfl⟩ := List.mem_map.mp hx
  exact Nat.mod_lt _ (by decide)
theorem text_size (l : List Int) : (strOfNums (textL l)).size = 8 * l.length := by
  rw [strOfNums_size, textL_range, List.length_map, List.length_range]
theorem word_text (l : List Int) (hw : AllW l) (i : Nat) (hi : i < l.length) : wordN (strOfNums (textL l)) (8 * i) = (rd l (i : Int)).toNat := by
  have hx := hw (i : Int)
  unfold wordN
  rw [show ((List.range 8).map fun j => (bt (strOfNums (textL l)) ((8 * i + j : Nat) : Int)).toNat) = leB 8 (rd l (i : Int)).toNat from ?_]
  · exact leV_leB 8 _ (by have := hx.1; have := hx.2; omega)
  rw [leB8]
  apply List.map_congr_left
  intro j hj
  have hj8 : j < 8 := List.mem_range.mp hj
  rw [bt_bytes _ _ (by rw [text_size]; omega), Int.toNat_natCast]
  simp only [byteNs_text, List.getElem_map, List.getElem_range]
  rw [show (8 * i + j) / 8 = i by omega, show (8 * i + j) % 8 = j by omega]
theorem load_text (l : List Int) (hl : l.length = 25) (hw : AllW l) : loadL (strOfNums (textL l)) = l := by
  rw [loadL, bf_all]
  conv => rhs; rw [rd_range l, hl]
  apply List.map_congr_left
  intro i hi
  have h25 : i < 25 := List.mem_range.mp hi
  show ((wordN (strOfNums (textL l)) (8 * i) : Nat) : Int) = _
  rw [word_text l hw i (by omega)]
  have := (hw (i : Int)).1
  omega
end Go.Proofs.YtakejfhfkjnhlaaDoor.M
namespace Go.Proofs.YtakejfhfkjnhlaaDoor.M
open Go.RowKit Go.Proofs.YtakejfhfkjnhlaaDoorW.PrintWords Go.Proofs.YtakejfhfkjnhlaaDoorW.PrintMore
def padFin (Y : List Int) : ByteArray := strOfNums (Y.set ((((Y.length - 1 : Nat) : Int)) : Int).toNat (Go.bits .or .u8 (rd Y (((Y.length - 1 : Nat) : Int))) 128))
def padL (s : ByteArray) : List Int := bytesOf s ++ [1] ++ List.replicate (135 - s.size % 136) 0
def padOf (s : ByteArray) : ByteArray := padFin (padL s)
theorem padL_length (s : ByteArray) : (padL s).length = s.size + 1 + (135 - s.size % 136) := by
  unfold padL
  rw [List.length_append, List.length_append, bytesOf_length, List.length_replicate]
  rfl
theorem repeat_zero : ∀ n, Lib.repeatL [(0 : UInt8)] n = List.replicate n 0
  | 0 => rfl
  | n + 1 => by
    rw [Lib.repeatL, repeat_zero n]
    rfl
theorem zeros_size (n : Nat) : (⟨(Lib.repeatL [0] n).toArray⟩ : ByteArray).size = n := by
  rw [repeat_zero]
  show (List.replicate n (0 : UInt8)).toArray.size = n
  simp
theorem bytesOf_append (s t : ByteArray) : bytesOf (s ++ t) = bytesOf s ++ bytesOf t := by
  unfold bytesOf
  simp
theorem pad_bytes (s : ByteArray) : bytesOf ((s ++ (⟨#[1]⟩ : ByteArray)) ++ (⟨(Lib.repeatL [0] (135 - s.size % 136)).toArray⟩ : ByteArray)) = padL s := by
  rw [bytesOf_append, bytesOf_append, repeat_zero]
  unfold padL
  congr 1
  unfold bytesOf
  simp
end Go.Proofs.YtakejfhfkjnhlaaDoor.M
