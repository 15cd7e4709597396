/- strconv.Itoa of the program as a Lean function, by the shelf's contract; its table is laid. Conditions: none. -/
import Derived.Test.YtfigfpfgeoadbaaDoorProg
import Derived.Test.YtfigfpfgeoadbaaDoorWMore
import Derived.Test.YtfigfpfgeoadbaaDoorWLast
import Derived.Test.YtfigfpfgeoadbaaDoorLaysItoa
namespace Go.Proofs.YtfigfpfgeoadbaaDoor.M
open Go.RowKit Go.Shelf Go.Proofs.YtfigfpfgeoadbaaDoorW.PrintWords Go.Proofs.YtfigfpfgeoadbaaDoorW.PrintMore
/-- the table of powers of ten lies as the library's text lays it -/
def TabW (w : World) : Prop := Lib.TabIs Tryd.prog w "internal/strconv.uint64pow10" .u64 Lib.pow10Tab
theorem TabW.below {w w' : World} (h : TabW w) (hb : Below w.heap.size w w') : TabW w' := by
  unfold TabW Lib.TabIs at h ⊢
  unfold World.var? at h ⊢
  cases hg : Tryd.prog.globalNamed "internal/strconv.uint64pow10" with
  | none => rw [hg] at h; cases h
  | some g =>
    rw [hg] at h
    simp only [Option.bind_some] at h ⊢
    have hlt : g < w.heap.size := by
      cases hh : w.heap[g]? with
      | none => rw [hh] at h; cases h
      | some o => exact (Array.getElem?_eq_some_iff.1 hh).1
    rw [hb.block g hlt]
    exact h
def strconv_Itoa.f (n : Int) : Option ByteArray := if -9223372036854775808 ≤ n ∧ n ≤ 9223372036854775807 then some ⟨(Lib.itoa n).toArray⟩ else none
theorem strconv_Itoa.calls (n : Int) (r : ByteArray) (w : World) (h : strconv_Itoa.f n = some r) (htab : TabW w) :
    Calls Tryd.prog 26 #[.int .i64 n] w fun e w' => e = .returned (.string r) ∧ Below w.heap.size w w' := by
  unfold strconv_Itoa.f at h
  by_cases c : -9223372036854775808 ≤ n ∧ n ≤ 9223372036854775807
  · rw [if_pos c] at h
    obtain rfl := Option.some.inj h
    refine (Any.strconv_Itoa itLays n c.1 c.2 w htab).mono ?_
    rintro e w' ⟨he, k, os, rfl⟩
    exact ⟨he, (pw_below_drewN (Below.refl _ _) k).trans ⟨rfl, rfl, rfl, by rw [Sort.size_grow]; omega, fun i hi => Sort.heap_grow_old _ os hi⟩⟩
  · rw [if_neg c] at h
    exact absurd h (by simp)
end Go.Proofs.YtfigfpfgeoadbaaDoor.M
