/- The shelf's numbers at this program: LaysM.n171. Conditions: none. -/
import Derived.Shelf.Strconv.Itoa3
import Derived.Test.YtfigfpfgeoadbaaDoorProg
import Derived.KernelRfl
set_option linter.unusedVariables false
namespace Go.Proofs.YtfigfpfgeoadbaaDoor.M
open Go.RowKit Go.Shelf
def itRen : Ren := ⟨(fun x => match x with | 171 => 26 | 243 => 37 | 246 => 42 | 283 => 47 | 284 => 48 | 285 => 49 | 286 => 50 | 129 => 56 | 317 => 55 | 318 => 57 | 319 => 58 | 320 => 59 | 337 => 64 | 338 => 65 | n => n), (fun x => match x with | 3 => 3 | 9 => 9 | 2 => 2 | 4 => 4 | 171 => 62 | 0 => 0 | 53 => 63 | 37 => 32 | 5 => 5 | 173 => 66 | 212 => 73 | 51 => 74 | 20 => 20 | 213 => 75 | 46 => 52 | 232 => 84 | 233 => 85 | n => n), (fun x => match x with | 17 => 1 | 18 => 4 | 19 => 5 | n => n)⟩
set_option maxRecDepth 100000 in
theorem itLays : LaysM.n171 Tryd.prog itRen where
  mixed := by first | kernel_rfl | exact fun w => by kernel_rfl
  f129 := by first | kernel_rfl | exact fun w => by kernel_rfl
  f171 := by first | kernel_rfl | exact fun w => by kernel_rfl
  f243 := by first | kernel_rfl | exact fun w => by kernel_rfl
  f246 := by first | kernel_rfl | exact fun w => by kernel_rfl
  f283 := by first | kernel_rfl | exact fun w => by kernel_rfl
  f284 := by first | kernel_rfl | exact fun w => by kernel_rfl
  f285 := by first | kernel_rfl | exact fun w => by kernel_rfl
  f286 := by first | kernel_rfl | exact fun w => by kernel_rfl
  f317 := by first | kernel_rfl | exact fun w => by kernel_rfl
  f318 := by first | kernel_rfl | exact fun w => by kernel_rfl
  f319 := by first | kernel_rfl | exact fun w => by kernel_rfl
  f320 := by first | kernel_rfl | exact fun w => by kernel_rfl
  f337 := by first | kernel_rfl | exact fun w => by kernel_rfl
  f338 := by first | kernel_rfl | exact fun w => by kernel_rfl
  t0 := by first | kernel_rfl | exact fun w => by kernel_rfl
  a0 := by first | kernel_rfl | exact fun w => by kernel_rfl
  z0 := by first | kernel_rfl | exact fun w => by kernel_rfl
  v0 := by first | kernel_rfl | exact fun w => by kernel_rfl
  t2 := by first | kernel_rfl | exact fun w => by kernel_rfl
  a2 := by first | kernel_rfl | exact fun w => by kernel_rfl
  z2 := by first | kernel_rfl | exact fun w => by kernel_rfl
  v2 := by first | kernel_rfl | exact fun w => by kernel_rfl
  t3 := by first | kernel_rfl | exact fun w => by kernel_rfl
  a3 := by first | kernel_rfl | exact fun w => by kernel_rfl
  z3 := by first | kernel_rfl | exact fun w => by kernel_rfl
  v3 := by first | kernel_rfl | exact fun w => by kernel_rfl
  t4 := by first | kernel_rfl | exact fun w => by kernel_rfl
  a4 := by first | kernel_rfl | exact fun w => by kernel_rfl
  z4 := by first | kernel_rfl | exact fun w => by kernel_rfl
  v4 := by first | kernel_rfl | exact fun w => by kernel_rfl
  t5 := by first | kernel_rfl | exact fun w => by kernel_rfl
  a5 := by first | kernel_rfl | exact fun w => by kernel_rfl
  z5 := by first | kernel_rfl | exact fun w => by kernel_rfl
  v5 := by first | kernel_rfl | exact fun w => by kernel_rfl
  t9 := by first | kernel_rfl | exact fun w => by kernel_rfl
  a9 := by first | kernel_rfl | exact fun w => by kernel_rfl
  z9 := by first | kernel_rfl | exact fun w => by kernel_rfl
  v9 := by first | kernel_rfl | exact fun w => by kernel_rfl
  t20 := by first | kernel_rfl | exact fun w => by kernel_rfl
  a20 := by first | kernel_rfl | exact fun w => by kernel_rfl
  z20 := by first | kernel_rfl | exact fun w => by kernel_rfl
  v20 := by first | kernel_rfl | exact fun w => by kernel_rfl
  t37 := by first | kernel_rfl | exact fun w => by kernel_rfl
  a37 := by first | kernel_rfl | exact fun w => by kernel_rfl
  z37 := by first | kernel_rfl | exact fun w => by kernel_rfl
  v37 := by first | kernel_rfl | exact fun w => by kernel_rfl
  t46 := by first | kernel_rfl | exact fun w => by kernel_rfl
  a46 := by first | kernel_rfl | exact fun w => by kernel_rfl
  z46 := by first | kernel_rfl | exact fun w => by kernel_rfl
  v46 := by first | kernel_rfl | exact fun w => by kernel_rfl
  t51 := by first | kernel_rfl | exact fun w => by kernel_rfl
  a51 := by first | kernel_rfl | exact fun w => by kernel_rfl
  z51 := by first | kernel_rfl | exact fun w => by kernel_rfl
  v51 := by first | kernel_rfl | exact fun w => by kernel_rfl
  t53 := by first | kernel_rfl | exact fun w => by kernel_rfl
  a53 := by first | kernel_rfl | exact fun w => by kernel_rfl
  z53 := by first | kernel_rfl | exact fun w => by kernel_rfl
  v53 := by first | kernel_rfl | exact fun w => by kernel_rfl
  t171 := by first | kernel_rfl | exact fun w => by kernel_rfl
  a171 := by first | kernel_rfl | exact fun w => by kernel_rfl
  z171 := by first | kernel_rfl | exact fun w => by kernel_rfl
  v171 := by first | kernel_rfl | exact fun w => by kernel_rfl
  t173 := by first | kernel_rfl | exact fun w => by kernel_rfl
  a173 := by first | kernel_rfl | exact fun w => by kernel_rfl
  z173 := by first | kernel_rfl | exact fun w => by kernel_rfl
  v173 := by first | kernel_rfl | exact fun w => by kernel_rfl
  t212 := by first | kernel_rfl | exact fun w => by kernel_rfl
  a212 := by first | kernel_rfl | exact fun w => by kernel_rfl
  z212 := by first | kernel_rfl | exact fun w => by kernel_rfl
  v212 := by first | kernel_rfl | exact fun w => by kernel_rfl
  t213 := by first | kernel_rfl | exact fun w => by kernel_rfl
  a213 := by first | kernel_rfl | exact fun w => by kernel_rfl
  z213 := by first | kernel_rfl | exact fun w => by kernel_rfl
  t232 := by first | kernel_rfl | exact fun w => by kernel_rfl
  a232 := by first | kernel_rfl | exact fun w => by kernel_rfl
  z232 := by first | kernel_rfl | exact fun w => by kernel_rfl
  v232 := by first | kernel_rfl | exact fun w => by kernel_rfl
  t233 := by first | kernel_rfl | exact fun w => by kernel_rfl
  a233 := by first | kernel_rfl | exact fun w => by kernel_rfl
  z233 := by first | kernel_rfl | exact fun w => by kernel_rfl
  v233 := by first | kernel_rfl | exact fun w => by kernel_rfl
  g17 := by first | kernel_rfl | exact fun w => by kernel_rfl
  g18 := by first | kernel_rfl | exact fun w => by kernel_rfl
  g19 := by first | kernel_rfl | exact fun w => by kernel_rfl
  i0 := by first | kernel_rfl | exact fun w => by kernel_rfl
  i2 := by first | kernel_rfl | exact fun w => by kernel_rfl
  i3 := by first | kernel_rfl | exact fun w => by kernel_rfl
  i4 := by first | kernel_rfl | exact fun w => by kernel_rfl
  i5 := by first | kernel_rfl | exact fun w => by kernel_rfl
  i9 := by first | kernel_rfl | exact fun w => by kernel_rfl
  i20 := by first | kernel_rfl | exact fun w => by kernel_rfl
  i37 := by first | kernel_rfl | exact fun w => by kernel_rfl
  i46 := by first | kernel_rfl | exact fun w => by kernel_rfl
  i51 := by first | kernel_rfl | exact fun w => by kernel_rfl
  i53 := by first | kernel_rfl | exact fun w => by kernel_rfl
  i171 := by first | kernel_rfl | exact fun w => by kernel_rfl
  i173 := by first | kernel_rfl | exact fun w => by kernel_rfl
  i212 := by first | kernel_rfl | exact fun w => by kernel_rfl
  i232 := by first | kernel_rfl | exact fun w => by kernel_rfl
  i233 := by first | kernel_rfl | exact fun w => by kernel_rfl
  m17 := by first | kernel_rfl | exact fun w => by kernel_rfl
  m18 := by first | kernel_rfl | exact fun w => by kernel_rfl
  m19 := by first | kernel_rfl | exact fun w => by kernel_rfl
end Go.Proofs.YtfigfpfgeoadbaaDoor.M
