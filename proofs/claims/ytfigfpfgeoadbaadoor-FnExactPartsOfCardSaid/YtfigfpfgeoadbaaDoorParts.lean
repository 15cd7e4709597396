/- Plain lists: a text cut at each space, the empty pieces left out, is the text walked byte by byte. Conditions: none. -/
import Derived.Lib.SplitLaws
import Derived.Lib.IndexBytes
import Derived.Lib.Split
namespace Go.Proofs.YtfigfpfgeoadbaaDoor.M
open Go
def spP (b : UInt8) : List (List UInt8) → List (List UInt8)
  | [] => [[b]]
  | p :: ps => (b :: p) :: ps
/-- the pieces between the spaces -/
def sp : List UInt8 → List (List UInt8)
  | [] => [[]]
  | b :: l => if b = 32 then [] :: sp l else spP b (sp l)
/-- the pieces that are not empty, the first with cur ahead of it -/
def parts : List UInt8 → List UInt8 → List (List UInt8)
  | cur, [] => if cur = [] then [] else [cur]
  | cur, b :: l => if b = 32 then (if cur = [] then parts [] l else cur :: parts [] l) else parts (cur ++ [b]) l
theorem sp_ne : ∀ l, sp l ≠ []
  | [] => by simp [sp]
  | b :: l => by
    rw [sp]
    split
    · simp
    · cases sp l <;> simp [spP]
theorem split_sp : ∀ l : List UInt8, Lib.splitK [32] 0 (Lib.count l [32]) l = sp l
  | [] => by
    rw [Lib.count_one]
    rfl
  | b :: l => by
    have ih := split_sp l
    by_cases h : b = 32
    · subst h
      rw [Lib.count_cons_eq, Nat.add_comm, Lib.splitK, Lib.index_one, sp, if_pos rfl]
      have e : Lib.indexByte (32 :: l) 32 = 0 := by simp [Lib.indexByte]
      rw [e, if_neg (by decide)]
      show [] :: Lib.splitK [32] 0 (Lib.count l [32]) l = _
      rw [ih]
    · rw [Lib.count_cons_ne b 32 l h, sp, if_neg h]
      cases hk : Lib.count l [32] with
      | zero =>
        rw [hk] at ih
        rw [← ih]
        rfl
      | succ k =>
        rw [hk] at ih
        have hne : Lib.index l [32] ≠ -1 := fun q => by rw [Lib.count_miss q] at hk; omega
        rw [Lib.index_one] at hne
        have hge := Lib.indexByte_ge l 32
        obtain ⟨i, hi⟩ := Int.eq_ofNat_of_zero_le (show 0 ≤ Lib.indexByte l 32 by omega)
        have hi2 : Lib.indexByte (b :: l) 32 = ((i + 1 : Nat) : Int) := by
          rw [Lib.indexByte, if_neg (by simpa using h), if_neg (by rw [hi]; simp only [beq_iff_eq]; omega), hi]
          rfl
        rw [Lib.splitK, Lib.index_one, hi, if_neg (by simp only [beq_iff_eq]; omega)] at ih
        rw [Lib.splitK, Lib.index_one, hi2, if_neg (by simp only [beq_iff_eq]; omega), ← ih]
        rfl
def addC (cur : List UInt8) : List (List UInt8) → List (List UInt8)
  | [] => []
  | p :: ps => (cur ++ p) :: ps
theorem addC_nil : ∀ ps, addC [] ps = ps
  | [] => rfl
  | _ :: _ => rfl
theorem parts_sp : ∀ (l cur : List UInt8), parts cur l = (addC cur (sp l)).filter (fun p => !p.isEmpty)
  | [], cur => by
    rw [parts, sp]
    cases cur <;> simp [addC]
  | b :: l, cur => by
    rw [parts, sp]
    by_cases h : b = 32
    · rw [if_pos h, if_pos h, parts_sp l [], addC_nil]
      cases cur <;> simp [addC]
    · rw [if_neg h, if_neg h, parts_sp l (cur ++ [b])]
      cases hs : sp l with
      | nil => exact absurd hs (sp_ne l)
      | cons p ps => simp [addC, spP]
theorem parts_split (l : List UInt8) : parts [] l = (Lib.splitK [32] 0 (Lib.count l [32]) l).filter (fun p => !p.isEmpty) := by
  rw [parts_sp, addC_nil, split_sp]
end Go.Proofs.YtfigfpfgeoadbaaDoor.M
