/- The shelf's numbers at this program: Lays.n146. Conditions: none. -/
import Derived.Shelf.Strings.Split
import Derived.Test.YtfigfpfgeoadbaaDoorProg
import Derived.KernelRfl
set_option linter.unusedVariables false
namespace Go.Proofs.YtfigfpfgeoadbaaDoor.M
open Go.RowKit Go.Shelf
def spRen : Ren := ⟨(fun x => match x with | 146 => 27 | 221 => 38 | 268 => 43 | 138 => 44 | 143 => 45 | 195 => 51 | 197 => 52 | 218 => 53 | 219 => 54 | 260 => 60 | 217 => 41 | 225 => 61 | 224 => 62 | 267 => 63 | 266 => 46 | 314 => 66 | n => n), (fun x => match x with | 9 => 9 | 31 => 27 | 3 => 3 | 4 => 4 | 0 => 0 | 105 => 69 | 21 => 21 | 5 => 5 | 46 => 52 | 119 => 78 | 139 => 81 | 138 => 80 | 146 => 82 | 51 => 74 | n => n), (fun x => match x with | 1 => 0 | 3 => 2 | 4 => 3 | n => n)⟩
set_option maxRecDepth 100000 in
theorem spLays : Lays.n146 Tryd.prog spRen where
  mixed := by first | kernel_rfl | exact fun w => by kernel_rfl
  f138 := by first | kernel_rfl | exact fun w => by kernel_rfl
  f143 := by first | kernel_rfl | exact fun w => by kernel_rfl
  f146 := by first | kernel_rfl | exact fun w => by kernel_rfl
  f195 := by first | kernel_rfl | exact fun w => by kernel_rfl
  f197 := by first | kernel_rfl | exact fun w => by kernel_rfl
  f217 := by first | kernel_rfl | exact fun w => by kernel_rfl
  f218 := by first | kernel_rfl | exact fun w => by kernel_rfl
  f219 := by first | kernel_rfl | exact fun w => by kernel_rfl
  f221 := by first | kernel_rfl | exact fun w => by kernel_rfl
  f224 := by first | kernel_rfl | exact fun w => by kernel_rfl
  f225 := by first | kernel_rfl | exact fun w => by kernel_rfl
  f260 := by first | kernel_rfl | exact fun w => by kernel_rfl
  f266 := by first | kernel_rfl | exact fun w => by kernel_rfl
  f267 := by first | kernel_rfl | exact fun w => by kernel_rfl
  f268 := by first | kernel_rfl | exact fun w => by kernel_rfl
  f314 := by first | kernel_rfl | exact fun w => by kernel_rfl
  t0 := by first | kernel_rfl | exact fun w => by kernel_rfl
  a0 := by first | kernel_rfl | exact fun w => by kernel_rfl
  z0 := by first | kernel_rfl | exact fun w => by kernel_rfl
  v0 := by first | kernel_rfl | exact fun w => by kernel_rfl
  t3 := by first | kernel_rfl | exact fun w => by kernel_rfl
  a3 := by first | kernel_rfl | exact fun w => by kernel_rfl
  z3 := by first | kernel_rfl | exact fun w => by kernel_rfl
  v3 := by first | kernel_rfl | exact fun w => by kernel_rfl
  t4 := by first | kernel_rfl | exact fun w => by kernel_rfl
  a4 := by first | kernel_rfl | exact fun w => by kernel_rfl
  z4 := by first | kernel_rfl | exact fun w => by kernel_rfl
  v4 := by first | kernel_rfl | exact fun w => by kernel_rfl
  t5 := by first | kernel_rfl | exact fun w => by kernel_rfl
  a5 := by first | kernel_rfl | exact fun w => by kernel_rfl
  z5 := by first | kernel_rfl | exact fun w => by kernel_rfl
  v5 := by first | kernel_rfl | exact fun w => by kernel_rfl
  t9 := by first | kernel_rfl | exact fun w => by kernel_rfl
  a9 := by first | kernel_rfl | exact fun w => by kernel_rfl
  z9 := by first | kernel_rfl | exact fun w => by kernel_rfl
  v9 := by first | kernel_rfl | exact fun w => by kernel_rfl
  t21 := by first | kernel_rfl | exact fun w => by kernel_rfl
  a21 := by first | kernel_rfl | exact fun w => by kernel_rfl
  z21 := by first | kernel_rfl | exact fun w => by kernel_rfl
  v21 := by first | kernel_rfl | exact fun w => by kernel_rfl
  t31 := by first | kernel_rfl | exact fun w => by kernel_rfl
  a31 := by first | kernel_rfl | exact fun w => by kernel_rfl
  z31 := by first | kernel_rfl | exact fun w => by kernel_rfl
  v31 := by first | kernel_rfl | exact fun w => by kernel_rfl
  t46 := by first | kernel_rfl | exact fun w => by kernel_rfl
  a46 := by first | kernel_rfl | exact fun w => by kernel_rfl
  z46 := by first | kernel_rfl | exact fun w => by kernel_rfl
  v46 := by first | kernel_rfl | exact fun w => by kernel_rfl
  t51 := by first | kernel_rfl | exact fun w => by kernel_rfl
  a51 := by first | kernel_rfl | exact fun w => by kernel_rfl
  z51 := by first | kernel_rfl | exact fun w => by kernel_rfl
  v51 := by first | kernel_rfl | exact fun w => by kernel_rfl
  t105 := by first | kernel_rfl | exact fun w => by kernel_rfl
  a105 := by first | kernel_rfl | exact fun w => by kernel_rfl
  z105 := by first | kernel_rfl | exact fun w => by kernel_rfl
  v105 := by first | kernel_rfl | exact fun w => by kernel_rfl
  t119 := by first | kernel_rfl | exact fun w => by kernel_rfl
  a119 := by first | kernel_rfl | exact fun w => by kernel_rfl
  z119 := by first | kernel_rfl | exact fun w => by kernel_rfl
  t138 := by first | kernel_rfl | exact fun w => by kernel_rfl
  a138 := by first | kernel_rfl | exact fun w => by kernel_rfl
  z138 := by first | kernel_rfl | exact fun w => by kernel_rfl
  v138 := by first | kernel_rfl | exact fun w => by kernel_rfl
  t139 := by first | kernel_rfl | exact fun w => by kernel_rfl
  a139 := by first | kernel_rfl | exact fun w => by kernel_rfl
  z139 := by first | kernel_rfl | exact fun w => by kernel_rfl
  v139 := by first | kernel_rfl | exact fun w => by kernel_rfl
  t146 := by first | kernel_rfl | exact fun w => by kernel_rfl
  a146 := by first | kernel_rfl | exact fun w => by kernel_rfl
  z146 := by first | kernel_rfl | exact fun w => by kernel_rfl
  v146 := by first | kernel_rfl | exact fun w => by kernel_rfl
  g1 := by first | kernel_rfl | exact fun w => by kernel_rfl
  g3 := by first | kernel_rfl | exact fun w => by kernel_rfl
  g4 := by first | kernel_rfl | exact fun w => by kernel_rfl
end Go.Proofs.YtfigfpfgeoadbaaDoor.M
