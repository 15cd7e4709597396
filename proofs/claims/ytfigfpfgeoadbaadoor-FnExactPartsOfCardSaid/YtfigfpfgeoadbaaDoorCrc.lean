/- Plain arithmetic: the bytes of a text as numbers, exclusive-or of 32 bits, a check sum byte by byte. Conditions: none. -/
import Derived.Test.YtfigfpfgeoadbaaDoorMod
import Derived.Laws.BitsLemmas
import Derived.Test.YtfigfpfgeoadbaaDoorWWords
namespace Go.Proofs.YtfigfpfgeoadbaaDoor.M
open Go.RowKit Go.Proofs.YtfigfpfgeoadbaaDoorW.PrintWords
def byteNs (s : ByteArray) : List Nat := s.data.toList.map (·.toNat)
theorem byteNs_length (s : ByteArray) : (byteNs s).length = s.size := by
  unfold byteNs
  rw [List.length_map, Array.length_toList]
  rfl
theorem byteNs_lt (s : ByteArray) : ∀ b ∈ byteNs s, b < 256 := by
  intro b hb
  obtain ⟨c, _, rfl⟩ := List.mem_map.1 hb
  exact c.toNat_lt
theorem bt_bytes (s : ByteArray) (i : Nat) (h : i < s.size) : bt s (i : Int) = (((byteNs s)[i]'(by rw [byteNs_length]; exact h) : Nat) : Int) := by
  unfold bt
  rw [dif_pos (by rw [Int.toNat_natCast]; exact h)]
  simp [byteNs]
  rfl
theorem byteNs_drop (s : ByteArray) (i : Nat) (h : i < s.size) : (byteNs s).drop i = (bt s (i : Int)).toNat :: (byteNs s).drop (i + 1) := by
  rw [List.drop_eq_getElem_cons (by rw [byteNs_length]; exact h), bt_bytes s i h, Int.toNat_natCast]
theorem bt_nat (s : ByteArray) (i : Int) : ((bt s i).toNat : Int) = bt s i ∧ (bt s i).toNat < 256 := by
  have := bt_range s i
  omega
theorem xor_nat (a b : Nat) (ha : a < 4294967296) (hb : b < 4294967296) : Go.bits .xor .u32 (a : Int) (b : Int) = ((a ^^^ b : Nat) : Int) := by
  show IntKind.u32.wrap ((BitVec.ofInt 32 (a : Int) ^^^ BitVec.ofInt 32 (b : Int)).toNat : Int) = _
  rw [BitVec.toNat_xor, BitVec.ofInt_natCast, BitVec.ofInt_natCast, BitVec.toNat_ofNat, BitVec.toNat_ofNat, Nat.mod_eq_of_lt (show a < 2 ^ 32 from ha), Nat.mod_eq_of_lt (show b < 2 ^ 32 from hb), IntKind.wrap_u32]
  have h := Nat.xor_lt_two_pow (n := 32) (x := a) (y := b) ha hb
  generalize a ^^^ b = c at h ⊢
  omega
theorem and_one (a : Nat) (ha : a < 4294967296) : Go.bits .and .u32 (a : Int) 1 = ((a % 2 : Nat) : Int) := by
  have h := bits_mask .u32 32 (by decide) (fun n h0 h1 => by rw [IntKind.wrap_u32]; omega) 1 (by omega) (a : Int) (by omega) (by omega)
  rw [show ((2 : Int) ^ 1 - 1) = 1 from rfl] at h
  rw [h]
  omega
def crcBit (x : Nat) : Nat := if x % 2 = 1 then (x / 2) ^^^ 3558460437 else x / 2
theorem crcBit_lt (x : Nat) (h : x < 4294967296) : crcBit x < 4294967296 := by
  unfold crcBit
  split
  · exact Nat.xor_lt_two_pow (n := 32) (by omega) (by omega)
  · omega
def crcBits : Nat → Nat → Nat
  | 0, x => x
  | d + 1, x => crcBits d (crcBit x)
theorem crcBits_lt : ∀ (d x : Nat), x < 4294967296 → crcBits d x < 4294967296
  | 0, _, h => h
  | d + 1, x, h => crcBits_lt d _ (crcBit_lt x h)
def crcByte (x b : Nat) : Nat := crcBits 8 (x ^^^ b)
theorem crcByte_lt (x b : Nat) (h : x < 4294967296) (hb : b < 256) : crcByte x b < 4294967296 :=
  crcBits_lt 8 _ (Nat.xor_lt_two_pow (n := 32) h (by omega))
def crcL (x : Nat) (l : List Nat) : Nat := l.foldl crcByte x
theorem crcL_lt : ∀ (l : List Nat) (x : Nat), x < 4294967296 → (∀ b ∈ l, b < 256) → crcL x l < 4294967296
  | [], _, h, _ => h
  | b :: l, x, h, hl => crcL_lt l _ (crcByte_lt x b h (hl b (by simp))) (fun c hc => hl c (by simp [hc]))
theorem u32_nat {n : Int} (h : (Lit.int .u32 n).wf = true) : ∃ a : Nat, n = (a : Int) ∧ a < 4294967296 := by
  simp [Lit.wf, IntKind.min, IntKind.max, IntKind.signed, IntKind.bits] at h
  exact ⟨n.toNat, by omega, by omega⟩
theorem wrap_nat' (i : Nat) (h : i ≤ 9000000000000000000) : wrap64 ((i : Int) + 1) = ((i + 1 : Nat) : Int) := by
  unfold wrap64
  omega
/-- four bytes, the highest first -/
def four (x : Nat) : ByteArray := strOfNums [((x : Int) / 16777216) % 256, ((x : Int) / 65536) % 256, ((x : Int) / 256) % 256, (x : Int) % 256]
theorem four_size (x : Nat) : (four x).size = 4 := strOfNums_size _
/-- what Unsealed comes to -/
def unsealedOf (s : ByteArray) : ByteArray × Bool :=
  if s.size < 4 ∨ s.size > 20004 ∨ ¬ (four (crcL 4294967295 (byteNs (s.extract 0 (s.size - 4))))).toList = (s.extract (s.size - 4) s.size).toList then (⟨#[]⟩, false) else (s.extract 0 (s.size - 4), true)
end Go.Proofs.YtfigfpfgeoadbaaDoor.M
