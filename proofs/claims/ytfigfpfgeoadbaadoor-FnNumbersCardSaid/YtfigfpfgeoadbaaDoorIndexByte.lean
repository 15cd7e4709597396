/- strings.IndexByte of the program as a Lean function, by the shelf's contract. Conditions: none. -/
import Derived.Test.YtfigfpfgeoadbaaDoorProg
import Derived.Test.YtfigfpfgeoadbaaDoorWMore
import Derived.Test.YtfigfpfgeoadbaaDoorWLast
import Derived.Shelf.Small.Strs
namespace Go.Proofs.YtfigfpfgeoadbaaDoor.M
open Go.RowKit Go.Shelf Go.Proofs.YtfigfpfgeoadbaaDoorW.PrintWords Go.Proofs.YtfigfpfgeoadbaaDoorW.PrintMore
def ibRen : Ren := ⟨fun x => if x = 137 then 36 else if x = 217 then 41 else if x = 266 then 46 else x, fun x => x, fun x => x⟩
set_option maxRecDepth 100000 in
theorem ibLays : Lays.n137 Tryd.prog ibRen where
  mixed := by kernel_rfl
  f137 := by kernel_rfl
  f217 := by kernel_rfl
  f266 := by kernel_rfl
  t3 := by kernel_rfl
  a3 := fun w => by kernel_rfl
  z3 := fun w => by kernel_rfl
  v3 := fun w => by kernel_rfl
  t5 := by kernel_rfl
  a5 := fun w => by kernel_rfl
  z5 := fun w => by kernel_rfl
  v5 := fun w => by kernel_rfl
  t9 := by kernel_rfl
  a9 := fun w => by kernel_rfl
  z9 := fun w => by kernel_rfl
  v9 := fun w => by kernel_rfl
def strings_IndexByte.f (s : ByteArray) (c : Int) : Option Int := some (Lib.indexByte s.data.toList c.toNat.toUInt8)
theorem strings_IndexByte.calls (s : ByteArray) (c r : Int) (w : World) (h : strings_IndexByte.f s c = some r) :
    Calls Tryd.prog 36 #[.string s, .int .u8 c] w fun e w' => e = .returned (.int .i64 r) ∧ Drawn0 w w' := by
  have e := Option.some.inj h
  refine (Any.strings_IndexByte ibLays s c w).mono ?_
  rintro e w' ⟨rfl, rfl⟩
  exact ⟨by rw [e], ⟨0, rfl⟩⟩
end Go.Proofs.YtfigfpfgeoadbaaDoor.M
