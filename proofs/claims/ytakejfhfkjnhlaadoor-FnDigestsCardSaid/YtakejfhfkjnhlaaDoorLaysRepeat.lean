/- The shelf's numbers at this program: Lays.n105. Conditions: none. -/
import Derived.Shelf.Strings.Repeat
import Derived.Shelf.Strings.BuilderX
import Derived.Test.YtakejfhfkjnhlaaDoorProg
import Derived.KernelRfl
set_option linter.unusedVariables false
namespace Go.Proofs.YtakejfhfkjnhlaaDoor.M
open Go.RowKit Go.Shelf
def rpRen : Ren := ⟨(fun x => match x with | 105 => 55 | 212 => 60 | 99 => 61 | 165 => 62 | 166 => 63 | 170 => 64 | 169 => 65 | 263 => 66 | 264 => 67 | 206 => 68 | 240 => 69 | 241 => 70 | 276 => 71 | 277 => 72 | n => n), (fun x => match x with | 9 => 9 | 3 => 3 | 4 => 4 | 20 => 20 | 0 => 0 | 46 => 41 | 109 => 72 | 5 => 5 | 72 => 76 | 76 => 79 | 51 => 82 | 146 => 83 | 53 => 37 | 148 => 85 | 70 => 74 | 37 => 26 | 75 => 78 | 127 => 87 | 164 => 88 | 80 => 49 | n => n), (fun x => x)⟩
set_option maxRecDepth 100000 in
theorem rpLays : Lays.n105 Tryd.prog rpRen where
  mixed := by first | kernel_rfl | exact fun w => by kernel_rfl
  f99 := by first | kernel_rfl | exact fun w => by kernel_rfl
  f105 := by first | kernel_rfl | exact fun w => by kernel_rfl
  f165 := by first | kernel_rfl | exact fun w => by kernel_rfl
  f166 := by first | kernel_rfl | exact fun w => by kernel_rfl
  f169 := by first | kernel_rfl | exact fun w => by kernel_rfl
  f170 := by first | kernel_rfl | exact fun w => by kernel_rfl
  f206 := by first | kernel_rfl | exact fun w => by kernel_rfl
  f212 := by first | kernel_rfl | exact fun w => by kernel_rfl
  f240 := by first | kernel_rfl | exact fun w => by kernel_rfl
  f241 := by first | kernel_rfl | exact fun w => by kernel_rfl
  f263 := by first | kernel_rfl | exact fun w => by kernel_rfl
  f264 := by first | kernel_rfl | exact fun w => by kernel_rfl
  f276 := by first | kernel_rfl | exact fun w => by kernel_rfl
  f277 := by first | kernel_rfl | exact fun w => by kernel_rfl
  t0 := by first | kernel_rfl | exact fun w => by kernel_rfl
  a0 := by first | kernel_rfl | exact fun w => by kernel_rfl
  z0 := by first | kernel_rfl | exact fun w => by kernel_rfl
  v0 := by first | kernel_rfl | exact fun w => by kernel_rfl
  t3 := by first | kernel_rfl | exact fun w => by kernel_rfl
  a3 := by first | kernel_rfl | exact fun w => by kernel_rfl
  z3 := by first | kernel_rfl | exact fun w => by kernel_rfl
  v3 := by first | kernel_rfl | exact fun w => by kernel_rfl
  t4 := by first | kernel_rfl | exact fun w => by kernel_rfl
  a4 := by first | kernel_rfl | exact fun w => by kernel_rfl
  z4 := by first | kernel_rfl | exact fun w => by kernel_rfl
  v4 := by first | kernel_rfl | exact fun w => by kernel_rfl
  t5 := by first | kernel_rfl | exact fun w => by kernel_rfl
  a5 := by first | kernel_rfl | exact fun w => by kernel_rfl
  z5 := by first | kernel_rfl | exact fun w => by kernel_rfl
  v5 := by first | kernel_rfl | exact fun w => by kernel_rfl
  t9 := by first | kernel_rfl | exact fun w => by kernel_rfl
  a9 := by first | kernel_rfl | exact fun w => by kernel_rfl
  z9 := by first | kernel_rfl | exact fun w => by kernel_rfl
  v9 := by first | kernel_rfl | exact fun w => by kernel_rfl
  t20 := by first | kernel_rfl | exact fun w => by kernel_rfl
  a20 := by first | kernel_rfl | exact fun w => by kernel_rfl
  z20 := by first | kernel_rfl | exact fun w => by kernel_rfl
  v20 := by first | kernel_rfl | exact fun w => by kernel_rfl
  t37 := by first | kernel_rfl | exact fun w => by kernel_rfl
  a37 := by first | kernel_rfl | exact fun w => by kernel_rfl
  z37 := by first | kernel_rfl | exact fun w => by kernel_rfl
  v37 := by first | kernel_rfl | exact fun w => by kernel_rfl
  t46 := by first | kernel_rfl | exact fun w => by kernel_rfl
  a46 := by first | kernel_rfl | exact fun w => by kernel_rfl
  z46 := by first | kernel_rfl | exact fun w => by kernel_rfl
  v46 := by first | kernel_rfl | exact fun w => by kernel_rfl
  t51 := by first | kernel_rfl | exact fun w => by kernel_rfl
  a51 := by first | kernel_rfl | exact fun w => by kernel_rfl
  z51 := by first | kernel_rfl | exact fun w => by kernel_rfl
  v51 := by first | kernel_rfl | exact fun w => by kernel_rfl
  t53 := by first | kernel_rfl | exact fun w => by kernel_rfl
  a53 := by first | kernel_rfl | exact fun w => by kernel_rfl
  z53 := by first | kernel_rfl | exact fun w => by kernel_rfl
  v53 := by first | kernel_rfl | exact fun w => by kernel_rfl
  t70 := by first | kernel_rfl | exact fun w => by kernel_rfl
  a70 := by first | kernel_rfl | exact fun w => by kernel_rfl
  z70 := by first | kernel_rfl | exact fun w => by kernel_rfl
  v70 := by first | kernel_rfl | exact fun w => by kernel_rfl
  t72 := by first | kernel_rfl | exact fun w => by kernel_rfl
  a72 := by first | kernel_rfl | exact fun w => by kernel_rfl
  z72 := by first | kernel_rfl | exact fun w => by kernel_rfl
  v72 := by first | kernel_rfl | exact fun w => by kernel_rfl
  t75 := by first | kernel_rfl | exact fun w => by kernel_rfl
  a75 := by first | kernel_rfl | exact fun w => by kernel_rfl
  z75 := by first | kernel_rfl | exact fun w => by kernel_rfl
  v75 := by first | kernel_rfl | exact fun w => by kernel_rfl
  t76 := by first | kernel_rfl | exact fun w => by kernel_rfl
  a76 := by first | kernel_rfl | exact fun w => by kernel_rfl
  z76 := by first | kernel_rfl | exact fun w => by kernel_rfl
  v76 := by first | kernel_rfl | exact fun w => by kernel_rfl
  t109 := by first | kernel_rfl | exact fun w => by kernel_rfl
  a109 := by first | kernel_rfl | exact fun w => by kernel_rfl
  z109 := by first | kernel_rfl | exact fun w => by kernel_rfl
  v109 := by first | kernel_rfl | exact fun w => by kernel_rfl
  t127 := by first | kernel_rfl | exact fun w => by kernel_rfl
  a127 := by first | kernel_rfl | exact fun w => by kernel_rfl
  z127 := by first | kernel_rfl | exact fun w => by kernel_rfl
  v127 := by first | kernel_rfl | exact fun w => by kernel_rfl
  t146 := by first | kernel_rfl | exact fun w => by kernel_rfl
  a146 := by first | kernel_rfl | exact fun w => by kernel_rfl
  z146 := by first | kernel_rfl | exact fun w => by kernel_rfl
  v146 := by first | kernel_rfl | exact fun w => by kernel_rfl
  t148 := by first | kernel_rfl | exact fun w => by kernel_rfl
  a148 := by first | kernel_rfl | exact fun w => by kernel_rfl
  z148 := by first | kernel_rfl | exact fun w => by kernel_rfl
  v148 := by first | kernel_rfl | exact fun w => by kernel_rfl
  t164 := by first | kernel_rfl | exact fun w => by kernel_rfl
  a164 := by first | kernel_rfl | exact fun w => by kernel_rfl
  z164 := by first | kernel_rfl | exact fun w => by kernel_rfl
  v164 := by first | kernel_rfl | exact fun w => by kernel_rfl
end Go.Proofs.YtakejfhfkjnhlaaDoor.M
