/- Plain arithmetic: what ReadPoint comes to, out of three bytes. Conditions: none. -/
import Derived.Test.YtfigfpfgeoadbaaRead
import Derived.Test.YtfigfpfgeoadbaaFermat
namespace Go.Proofs.Ytfigfpfgeoadbaa.M
open Go.RowKit Go.Proofs.YtfigfpfgeoadbaaW.PrintWords
theorem byteNs_strOf (l : List Int) : byteNs (strOfNums l) = l.map (fun n => n.toNat % 256) := by
  unfold byteNs
  rw [strOfNums_data, List.map_map]
  apply List.map_congr_left
  intro n _
  simp
theorem list_three {l : List Nat} (h : l.length = 3) : ∃ a b c, l = [a, b, c] := by
  match l, h with
  | [a, b, c], _ => exact ⟨a, b, c, rfl⟩
theorem size_three (t : ByteArray) (h : t.size = 3) : ∃ a b c, byteNs t = [a, b, c] ∧ (a < 256 ∧ b < 256 ∧ c < 256) ∧ bt t 0 = (a : Int) ∧ bt t 1 = (b : Int) ∧ bt t 2 = (c : Int) := by
  obtain ⟨a, b, c, e⟩ := list_three (show (byteNs t).length = 3 by rw [byteNs_length, h])
  have hl := byteNs_lt t
  rw [e] at hl
  refine ⟨a, b, c, e, ⟨hl a (by simp), hl b (by simp), hl c (by simp)⟩, ?_, ?_, ?_⟩
  · have := bt_bytes t 0 (by omega)
    simp only [e] at this
    exact this
  · have := bt_bytes t 1 (by omega)
    simp only [e] at this
    exact this
  · have := bt_bytes t 2 (by omega)
    simp only [e] at this
    exact this
theorem zeros_iff (t : ByteArray) : t.toList = ([0, 0, 0] : List UInt8) ↔ byteNs t = [0, 0, 0] := by
  rw [toList_eq]
  constructor
  · intro h
    unfold byteNs
    rw [h]
    rfl
  · intro h
    exact map_toNat_inj _ _ h
theorem root_zero (c : Int) (h : (rootOf c).2 = false) : c % 12107 ≠ 0 ∧ (rootOf c).1 = 0 := by
  unfold rootOf at h ⊢
  by_cases q : c ^ 3027 % 12107 * (c ^ 3027 % 12107) % 12107 = c % 12107
  · rw [if_pos q] at h
    simp at h
  · rw [if_neg q]
    refine ⟨fun hc => q ?_, rfl⟩
    have h3 : c ^ 3027 % 12107 = 0 := by
      rw [← emod_pow c 12107 3027, hc]
      have : (0 : Int) ^ 3027 = 0 := Int.zero_pow (by decide)
      rw [this]
      rfl
    rw [h3, hc]
    rfl
theorem root_range (c : Int) : 0 ≤ (rootOf c).1 ∧ (rootOf c).1 < 12107 := by
  unfold rootOf
  split
  · simp only
    split
    · exact ⟨Int.emod_nonneg _ (by decide), Int.emod_lt_of_pos _ (by decide)⟩
    · exact ⟨Int.emod_nonneg _ (by decide), Int.emod_lt_of_pos _ (by decide)⟩
  · exact ⟨by decide, by decide⟩
/-- a text of three bytes is no text of a point that is not right -/
theorem text_bad {x y : Int} {t : ByteArray} (hs : t.size = 3) (h : okPoint x y false = false) : ¬ (pointText x y false).toList = t.toList := by
  rw [toList_iff]
  intro e
  have := congrArg List.length e
  rw [byteNs_length, byteNs_length, hs] at this
  unfold pointText at this
  rw [h, if_neg (by decide)] at this
  exact absurd this (by decide)
/-- its third byte is 0 or 1 -/
theorem text_third {x y : Int} {t : ByteArray} {a b c : Nat} (ht : byteNs t = [a, b, c]) (hc : 1 < c) (hy : 0 ≤ y) : ¬ (pointText x y false).toList = t.toList := by
  rw [toList_iff, ht]
  unfold pointText
  split
  · rw [if_neg (by simp), byteNs_strOf]
    intro e
    simp only [List.map_cons, List.map_nil, List.cons.injEq] at e
    have e3 := e.2.2.1
    rw [Int.tmod_eq_emod_of_nonneg hy] at e3
    omega
  · intro e
    have := congrArg List.length e
    rw [byteNs_length] at this
    exact absurd (show (0 : Nat) = 3 from this) (by decide)
/-- what ReadPoint comes to -/
def readPointOf (t : ByteArray) : Int × Int × Bool × Bool :=
  if t.size ≠ 3 then (0, 0, false, false) else
  if byteNs t = [0, 0, 0] then (0, 0, true, true) else
  if ¬ (0 ≤ bt t 0 * 256 + bt t 1 - 1 ∧ bt t 0 * 256 + bt t 1 - 1 < 12107) ∨ 1 < bt t 2 then (0, 0, false, false) else
  if (rootOf (((bt t 0 * 256 + bt t 1 - 1) * (bt t 0 * 256 + bt t 1 - 1) * (bt t 0 * 256 + bt t 1 - 1) + (bt t 0 * 256 + bt t 1 - 1)) % 12107)).2 = false then (0, 0, false, false) else
  (fun y : Int => if (pointText (bt t 0 * 256 + bt t 1 - 1) y false).toList = t.toList then (bt t 0 * 256 + bt t 1 - 1, y, false, true) else (0, 0, false, false))
    (if Int.tmod (rootOf (((bt t 0 * 256 + bt t 1 - 1) * (bt t 0 * 256 + bt t 1 - 1) * (bt t 0 * 256 + bt t 1 - 1) + (bt t 0 * 256 + bt t 1 - 1)) % 12107)).1 2 = bt t 2 then (rootOf (((bt t 0 * 256 + bt t 1 - 1) * (bt t 0 * 256 + bt t 1 - 1) * (bt t 0 * 256 + bt t 1 - 1) + (bt t 0 * 256 + bt t 1 - 1)) % 12107)).1 else (0 - (rootOf (((bt t 0 * 256 + bt t 1 - 1) * (bt t 0 * 256 + bt t 1 - 1) * (bt t 0 * 256 + bt t 1 - 1) + (bt t 0 * 256 + bt t 1 - 1)) % 12107)).1) % 12107)
end Go.Proofs.Ytfigfpfgeoadbaa.M
