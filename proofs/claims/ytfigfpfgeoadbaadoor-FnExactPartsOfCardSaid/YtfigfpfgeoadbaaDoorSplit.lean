/- strings.Split of the program as a Lean function, by the shelf's contract; the variable that its library reads is a whole number. Conditions: none. -/
import Derived.Test.YtfigfpfgeoadbaaDoorProg
import Derived.Test.YtfigfpfgeoadbaaDoorWMore
import Derived.Test.YtfigfpfgeoadbaaDoorWLast
import Derived.Test.YtfigfpfgeoadbaaDoorLaysSplit
namespace Go.Proofs.YtfigfpfgeoadbaaDoor.M
open Go.RowKit Go.Shelf Go.Proofs.YtfigfpfgeoadbaaDoorW.PrintWords Go.Proofs.YtfigfpfgeoadbaaDoorW.PrintMore
/-- the library's variable MaxLen holds a whole number -/
def MaxW (w : World) : Prop := ∃ m, w.cell? ⟨0, 0, none⟩ = some (.int .i64 m)
theorem MaxW.below {w w' : World} (h : MaxW w) (hb : Below w.heap.size w w') : MaxW w' := by
  obtain ⟨m, h⟩ := h
  refine ⟨m, ?_⟩
  unfold World.cell? at h ⊢
  have hlt : 0 < w.heap.size := by
    cases hh : w.heap[0]? with
    | none => simp [hh] at h
    | some o => exact (Array.getElem?_eq_some_iff.1 hh).1
  simp only [hb.block 0 hlt]
  exact h
def strings_Split.f (s sep : ByteArray) : Option (List ByteArray) := if s.size < 4294967281 ∧ 1 ≤ sep.size then some (Lib.splitB sep 0 (Lib.countB s sep) s) else none
theorem strings_Split.calls (s sep : ByteArray) (r : List ByteArray) (w : World) (h : strings_Split.f s sep = some r) (htab : MaxW w) :
    Calls Tryd.prog 27 #[.string s, .string sep] w fun e w' => ∃ v0_ : Value, e = .returned v0_ ∧ Kd.R Kd.string 9 w' w.heap.size (fun _ => True) v0_ r ∧ Below w.heap.size w w' := by
  unfold strings_Split.f at h
  by_cases c : s.size < 4294967281 ∧ 1 ≤ sep.size
  · rw [if_pos c] at h
    obtain rfl := Option.some.inj h
    obtain ⟨m, hm⟩ := htab
    refine (Any.strings_Split spLays (by kernel_rfl) s sep m w c.1 hm c.2).mono ?_
    rintro e w' ⟨he, rfl⟩
    have hlen := Lib.splitB_all sep c.2 0 _ s rfl
    have hle := Lib.countB_le sep c.2 s.size s (Nat.le_refl _)
    refine ⟨_, he, Kd.R_of_own ?_ (fun _ _ => trivial), (Below.refl _ _).alloc (Nat.le_refl _) _⟩
    have ho := World.ownsRow_lit (base := w.heap.size) (e := 9) (size := 1) w ((Lib.splitB sep 0 (Lib.countB s sep) s).map Value.string).toArray (Lib.countB s sep + 1) (Nat.le_refl _) (by simp only [maxLen]; omega) (by simp [hlen])
    rw [hlen]
    exact ho
  · rw [if_neg c] at h
    exact absurd h (by simp)
end Go.Proofs.YtfigfpfgeoadbaaDoor.M
