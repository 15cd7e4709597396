/- The Go functions of FnTwos as Lean functions, each with its walk: begun as a text of the print, turned where that fell. Conditions: none. -/
import Derived.Test.YtfigfpfgeoadbaaQFnTwosx0
import Derived.Test.YtfigfpfgeoadbaaQFnTwosx1
import Derived.Test.YtfigfpfgeoadbaaQFnTwosx2
import Derived.Test.YtfigfpfgeoadbaaQFnTwosx3
import Derived.Test.YtfigfpfgeoadbaaQFnTwosx4
import Derived.Test.YtfigfpfgeoadbaaQFnTwosx5
namespace Go.Proofs.Ytfigfpfgeoadbaa.PFnTwos
open Go.RowKit Go.Proofs.YtfigfpfgeoadbaaW.PrintWords Go.Proofs.YtfigfpfgeoadbaaW.PrintLast Go.Proofs.YtfigfpfgeoadbaaW.PrintMore
attribute [local go_sem] max2_int min2_int max_two min_two max_three min_three max_four min_four   -- for this text's walks alone
set_option linter.unusedVariables false
set_option linter.unusedSimpArgs false

attribute [local go_sem high] eqA50
/-! ### laws_FnTwos: function 9 -/
def laws_FnTwos.f (k : Nat) (l0 : List Int) : Option (Bool) := (laws_big.f l0).bind fun t271 => (if t271 = true then (some true) else ((spec_DrawTwos.f k l0).bind fun bt272 => ((impl_TwoMul.f bt272.1 bt272.2.1 bt272.2.2.1 bt272.2.2.2).bind fun bt278 => ((impl_TwoTurn.f bt272.1 bt272.2.1).bind fun bt281 => ((impl_TwoMul.f bt272.1 bt272.2.1 bt281.1 bt281.2).bind fun bt283 => ((impl_TwoInv.f k bt272.1 bt272.2.1).bind fun bt286 => ((impl_TwoMul.f bt272.1 bt272.2.1 bt286.1 bt286.2).bind fun bt288 => ((spec_DrawPlaces.f k l0).bind fun t291 => (if 0 < (t291.length : Int) then ((impl_TwoPow.f k bt272.1 bt272.2.1 (Int.tmod (rd t291 0) 40)).bind fun bt295 => ((impl_TwoPow.f k bt272.1 bt272.2.1 3).bind fun bt297 => ((impl_TwoMul.f bt295.1 bt295.2 bt297.1 bt297.2).bind fun bt299 => ((spec_DrawTwoPow.f k l0).bind fun bt302 => ((impl_TwoMul.f bt272.2.2.1 bt272.2.2.2 bt272.1 bt272.2.1).bind fun bt306 => (if (bt278.1 == bt306.1 && (bt278.2 == bt306.2)) = true then (if bt283.2 = 0 then (if bt283.1 = 0 then (some false) else (if (bt288.1 == 1 && (bt288.2 == 0)) = true then ((impl_TwoPow.f k bt272.1 bt272.2.1 (wrap64 ((Int.tmod (rd t291 0) 40) + 3))).bind fun bt308 => (if (bt299.1 == bt308.1 && (bt299.2 == bt308.2)) = true then ((impl_TwoPow.f k bt302.1 bt302.2.1 bt302.2.2).bind fun bt310 => ((spec_TwoPow.f k bt302.1 bt302.2.1 bt302.2.2).bind fun bt312 => (if (bt310.1 == bt312.1 && (bt310.2 == bt312.2)) = true then ((impl_TwoAdd.f bt272.1 bt272.2.1 bt272.2.2.1 bt272.2.2.2).bind fun bt314 => ((impl_TwoAdd.f bt272.2.2.1 bt272.2.2.2 bt272.1 bt272.2.1).bind fun bt316 => (if (bt314.1 == bt316.1 && (bt314.2 == bt316.2)) = true then ((impl_TwoOk.f bt278.1 bt278.2).bind fun t318 => (some t318)) else (some false)))) else (some false)))) else (some false))) else (some false))) else (some false)) else (some false))))))) else (none))))))))))
theorem laws_FnTwos.mono : ∀ a0 k, LeO (laws_FnTwos.f k a0) (laws_FnTwos.f (k + 1) a0) := by
  intro a0 k
  unfold laws_FnTwos.f
  repeat' first
      | (with_reducible exact impl_TwoInv.mono _ _ _)
      | (with_reducible exact impl_TwoPow.mono _ _ _ _)
      | (with_reducible exact spec_DrawPlaces.mono _ _)
      | (with_reducible exact spec_DrawTwoPow.mono _ _)
      | (with_reducible exact spec_DrawTwos.mono _ _)
      | (with_reducible exact spec_TwoPow.mono _ _ _ _)
      | (with_reducible exact LeO.refl _)
      | (with_reducible exact LeO.none _)
      | (with_reducible refine LeO.ite ?_ ?_)
      | (with_reducible refine LeO.bind ?_ (fun _ => ?_))
      | exact impl_TwoInv.mono _ _ _
      | exact impl_TwoPow.mono _ _ _ _
      | exact spec_DrawPlaces.mono _ _
      | exact spec_DrawTwoPow.mono _ _
      | exact spec_DrawTwos.mono _ _
      | exact spec_TwoPow.mono _ _ _ _
      | exact LeO.none _
      | refine LeO.ite ?_ ?_
      | refine LeO.bind ?_ (fun _ => ?_)
def laws_FnTwos.T8 : Bool × List (List Nat × List Nat) := (true, [([], []), ([], []), ([0, 1], [0, 1]), ([], []), ([3, 2], [3]), ([2, 4, 4], [2, 4]), ([], []), ([6, 5, 5, 0, 1, 2, 3, 4, 5, 6], [5, 6])])
def laws_FnTwos.B8 : List Nat := [0, 0, 3, 0, 15, 31, 0, 127]
theorem laws_FnTwos.tab8 : rtab .any (opsOf Try.f9 8) = laws_FnTwos.T8 := by kernel_rfl
theorem laws_FnTwos.bits8 : waitsOk laws_FnTwos.T8.2 laws_FnTwos.B8 = true := by kernel_rfl
def laws_FnTwos.T10 : Bool × List (List Nat × List Nat) := (true, [([], []), ([], []), ([], []), ([1, 2], [1, 2]), ([0, 3], [0, 3]), ([4, 3], [4]), ([5], [5]), ([6, 5], [5, 6]), ([7, 5], [5, 7]), ([5, 8], [5, 8]), ([9, 5], [9]), ([10], [10]), ([11, 10], [10, 11]), ([12, 10], [10, 12]), ([10, 13], [10, 13]), ([14, 10], [14]), ([15], [15]), ([15], [15]), ([16, 17, 15], [15, 16, 17]), ([15, 18], [15, 18]), ([19, 15], [19]), ([20], [20]), ([20], [20]), ([20], [20]), ([23, 20], [20, 23]), ([22, 24, 20, 20], [20, 22, 24]), ([21, 25, 20], [20, 21, 25]), ([20, 26], [20, 26]), ([27, 25], [27]), ([28], [28]), ([28], [28]), ([29, 30, 28, 28], [28, 29, 30]), ([28], [28]), ([28], [28]), ([32, 33, 31, 28], [28, 32, 33]), ([31, 34, 28], [28, 31, 34]), ([28, 35], [28, 35]), ([36, 34], [36]), ([37], [37]), ([37], [37]), ([38, 39, 37, 37], [37, 38, 39]), ([37], [37]), ([37], [37]), ([41, 42, 40, 37], [37, 41, 42]), ([40, 43, 37], [37, 40, 43]), ([37, 44], [37, 44]), ([45, 43], [45]), ([46], [46]), ([47, 46, 46], [46, 47]), ([46, 48], [46, 48]), ([49, 48, 0, 1, 2, 3, 4, 5, 6, 7, 8, 9, 10, 11, 12, 13, 14, 15, 16, 17, 18, 19, 20, 21, 22, 23, 24, 25, 26, 27, 28, 29, 30, 31, 32, 33, 34, 35, 36, 37, 38, 39, 40, 41, 42, 43, 44, 45, 46, 47, 48, 49], [49])])
def laws_FnTwos.B10 : List Nat := [0, 0, 0, 6, 15, 31, 63, 127, 255, 511, 1023, 2047, 4095, 8191, 16383, 32767, 65535, 65535, 262143, 524287, 1048575, 2097151, 2097151, 2097151, 10485759, 31457279, 67108863, 134217727, 268435455, 536870911, 536870911, 2147483647, 536870911, 536870911, 17179869183, 34359738367, 68719476735, 137438953471, 274877906943, 274877906943, 1099511627775, 274877906943, 274877906943, 8796093022207, 17592186044415, 35184372088831, 70368744177663, 140737488355327, 281474976710655, 562949953421311, 1125899906842623]
theorem laws_FnTwos.tab10 : rtab .any (opsOf Try.f9 10) = laws_FnTwos.T10 := by kernel_rfl
theorem laws_FnTwos.bits10 : waitsOk laws_FnTwos.T10.2 laws_FnTwos.B10 = true := by kernel_rfl
set_option maxHeartbeats 8000000 in
set_option maxRecDepth 100000 in
theorem laws_FnTwos.calls (k : Nat) (A0 : Option Addr) (c0 : Nat) (l0 : List Int) (r : Bool) (w : World) (hr0 : Kd.C (Kd.int .u8) w A0 l0.length l0) (hc0 : l0.length ≤ c0) (h : laws_FnTwos.f k l0 = some r) (hr : r = true) :
    Calls Try.prog 9 #[.slice A0 l0.length c0] w fun e w' => e = .returned (.bool r) ∧ Below w.heap.size w w' := by
  have HR := Aside0.mk hr
  clear hr
  have hu50 := Try.underlying50
  have HR0 := Aside0.mk hr0
  have HC0 := Aside0.mk hc0
  clear hr0 hc0
  have HB := Aside0.mk (Below.refl w.heap.size w)
  have H : ((laws_big.f l0).bind fun t271 => (if t271 = true then (some true) else ((spec_DrawTwos.f k l0).bind fun bt272 => ((impl_TwoMul.f bt272.1 bt272.2.1 bt272.2.2.1 bt272.2.2.2).bind fun bt278 => ((impl_TwoTurn.f bt272.1 bt272.2.1).bind fun bt281 => ((impl_TwoMul.f bt272.1 bt272.2.1 bt281.1 bt281.2).bind fun bt283 => ((impl_TwoInv.f k bt272.1 bt272.2.1).bind fun bt286 => ((impl_TwoMul.f bt272.1 bt272.2.1 bt286.1 bt286.2).bind fun bt288 => ((spec_DrawPlaces.f k l0).bind fun t291 => (if 0 < (t291.length : Int) then ((impl_TwoPow.f k bt272.1 bt272.2.1 (Int.tmod (rd t291 0) 40)).bind fun bt295 => ((impl_TwoPow.f k bt272.1 bt272.2.1 3).bind fun bt297 => ((impl_TwoMul.f bt295.1 bt295.2 bt297.1 bt297.2).bind fun bt299 => ((spec_DrawTwoPow.f k l0).bind fun bt302 => ((impl_TwoMul.f bt272.2.2.1 bt272.2.2.2 bt272.1 bt272.2.1).bind fun bt306 => (if (bt278.1 == bt306.1 && (bt278.2 == bt306.2)) = true then (if bt283.2 = 0 then (if bt283.1 = 0 then (some false) else (if (bt288.1 == 1 && (bt288.2 == 0)) = true then ((impl_TwoPow.f k bt272.1 bt272.2.1 (wrap64 ((Int.tmod (rd t291 0) 40) + 3))).bind fun bt308 => (if (bt299.1 == bt308.1 && (bt299.2 == bt308.2)) = true then ((impl_TwoPow.f k bt302.1 bt302.2.1 bt302.2.2).bind fun bt310 => ((spec_TwoPow.f k bt302.1 bt302.2.1 bt302.2.2).bind fun bt312 => (if (bt310.1 == bt312.1 && (bt310.2 == bt312.2)) = true then ((impl_TwoAdd.f bt272.1 bt272.2.1 bt272.2.2.1 bt272.2.2.2).bind fun bt314 => ((impl_TwoAdd.f bt272.2.2.1 bt272.2.2.2 bt272.1 bt272.2.1).bind fun bt316 => (if (bt314.1 == bt316.1 && (bt314.2 == bt316.2)) = true then ((impl_TwoOk.f bt278.1 bt278.2).bind fun t318 => (some t318)) else (some false)))) else (some false)))) else (some false))) else (some false))) else (some false)) else (some false))))))) else (none))))))))))) = some r := h
  clear h
  replace H := Option.bind_eq_some_iff.mp H
  obtain ⟨t271, A20, H⟩ := H
  replace H : (if t271 = true then (some true) else ((spec_DrawTwos.f k l0).bind fun bt272 => ((impl_TwoMul.f bt272.1 bt272.2.1 bt272.2.2.1 bt272.2.2.2).bind fun bt278 => ((impl_TwoTurn.f bt272.1 bt272.2.1).bind fun bt281 => ((impl_TwoMul.f bt272.1 bt272.2.1 bt281.1 bt281.2).bind fun bt283 => ((impl_TwoInv.f k bt272.1 bt272.2.1).bind fun bt286 => ((impl_TwoMul.f bt272.1 bt272.2.1 bt286.1 bt286.2).bind fun bt288 => ((spec_DrawPlaces.f k l0).bind fun t291 => (if 0 < (t291.length : Int) then ((impl_TwoPow.f k bt272.1 bt272.2.1 (Int.tmod (rd t291 0) 40)).bind fun bt295 => ((impl_TwoPow.f k bt272.1 bt272.2.1 3).bind fun bt297 => ((impl_TwoMul.f bt295.1 bt295.2 bt297.1 bt297.2).bind fun bt299 => ((spec_DrawTwoPow.f k l0).bind fun bt302 => ((impl_TwoMul.f bt272.2.2.1 bt272.2.2.2 bt272.1 bt272.2.1).bind fun bt306 => (if (bt278.1 == bt306.1 && (bt278.2 == bt306.2)) = true then (if bt283.2 = 0 then (if bt283.1 = 0 then (some false) else (if (bt288.1 == 1 && (bt288.2 == 0)) = true then ((impl_TwoPow.f k bt272.1 bt272.2.1 (wrap64 ((Int.tmod (rd t291 0) 40) + 3))).bind fun bt308 => (if (bt299.1 == bt308.1 && (bt299.2 == bt308.2)) = true then ((impl_TwoPow.f k bt302.1 bt302.2.1 bt302.2.2).bind fun bt310 => ((spec_TwoPow.f k bt302.1 bt302.2.1 bt302.2.2).bind fun bt312 => (if (bt310.1 == bt312.1 && (bt310.2 == bt312.2)) = true then ((impl_TwoAdd.f bt272.1 bt272.2.1 bt272.2.2.1 bt272.2.2.2).bind fun bt314 => ((impl_TwoAdd.f bt272.2.2.1 bt272.2.2.2 bt272.1 bt272.2.1).bind fun bt316 => (if (bt314.1 == bt316.1 && (bt314.2 == bt316.2)) = true then ((impl_TwoOk.f bt278.1 bt278.2).bind fun t318 => (some t318)) else (some false)))) else (some false)))) else (some false))) else (some false))) else (some false)) else (some false))))))) else (none)))))))))) = some r := H
  have A2 := Aside0.mk A20
  clear A20
  by_cases c3 : t271 = true
  · subst c3
    have H1 : (some true) = some r := by rw [if_pos rfl] at H; exact H
    clear H
    have H := H1
    clear H1
    obtain rfl := Option.some.inj H
    go_enter Try.func9, Try.ntmps9
    go_wp2_with (first | ((with_reducible refine gate_callee (f := 19) rfl ?_); refine goesL_ (some 13) rfl rfl Try.func19 (by kernel_rfl) rfl #[.slice A0 l0.length c0] rfl (by (try simp only [List.map_toArray, List.map_cons, List.map_nil]); first | done | rfl | (simp only [List.length_drop, List.length_take]; rfl)) ?_; (with_reducible refine (laws_big.calls _ _ l0 true _ ?side1 ?side2 A2.out).mono ?_); (case side1 => repeat (first | exact HR0.out | (with_reducible refine Kd.C_alloc ?_ _) | (with_reducible refine Kd.C_drewN ?_ _) | (with_reducible refine Kd.C_drew ?_))); (case side2 => exact HC0.out); rintro e w' ⟨rfl, ⟨nd, rfl⟩⟩; refine ⟨_, rfl, ?_⟩))
    go_ret
    exact ⟨by first | rfl | (simp [errW_none, errW_some] <;> rfl) | (simp [*, errW_none, errW_some] <;> rfl), by repeat (first | (with_reducible first | exact HB.out | apply below_alloc | apply pw_below_drewN | apply below_drew1) | exact HB.out)⟩
  · replace c3 := Bool.eq_false_iff.mpr c3
    subst c3
    have H1 : ((spec_DrawTwos.f k l0).bind fun bt272 => ((impl_TwoMul.f bt272.1 bt272.2.1 bt272.2.2.1 bt272.2.2.2).bind fun bt278 => ((impl_TwoTurn.f bt272.1 bt272.2.1).bind fun bt281 => ((impl_TwoMul.f bt272.1 bt272.2.1 bt281.1 bt281.2).bind fun bt283 => ((impl_TwoInv.f k bt272.1 bt272.2.1).bind fun bt286 => ((impl_TwoMul.f bt272.1 bt272.2.1 bt286.1 bt286.2).bind fun bt288 => ((spec_DrawPlaces.f k l0).bind fun t291 => (if 0 < (t291.length : Int) then ((impl_TwoPow.f k bt272.1 bt272.2.1 (Int.tmod (rd t291 0) 40)).bind fun bt295 => ((impl_TwoPow.f k bt272.1 bt272.2.1 3).bind fun bt297 => ((impl_TwoMul.f bt295.1 bt295.2 bt297.1 bt297.2).bind fun bt299 => ((spec_DrawTwoPow.f k l0).bind fun bt302 => ((impl_TwoMul.f bt272.2.2.1 bt272.2.2.2 bt272.1 bt272.2.1).bind fun bt306 => (if (bt278.1 == bt306.1 && (bt278.2 == bt306.2)) = true then (if bt283.2 = 0 then (if bt283.1 = 0 then (some false) else (if (bt288.1 == 1 && (bt288.2 == 0)) = true then ((impl_TwoPow.f k bt272.1 bt272.2.1 (wrap64 ((Int.tmod (rd t291 0) 40) + 3))).bind fun bt308 => (if (bt299.1 == bt308.1 && (bt299.2 == bt308.2)) = true then ((impl_TwoPow.f k bt302.1 bt302.2.1 bt302.2.2).bind fun bt310 => ((spec_TwoPow.f k bt302.1 bt302.2.1 bt302.2.2).bind fun bt312 => (if (bt310.1 == bt312.1 && (bt310.2 == bt312.2)) = true then ((impl_TwoAdd.f bt272.1 bt272.2.1 bt272.2.2.1 bt272.2.2.2).bind fun bt314 => ((impl_TwoAdd.f bt272.2.2.1 bt272.2.2.2 bt272.1 bt272.2.1).bind fun bt316 => (if (bt314.1 == bt316.1 && (bt314.2 == bt316.2)) = true then ((impl_TwoOk.f bt278.1 bt278.2).bind fun t318 => (some t318)) else (some false)))) else (some false)))) else (some false))) else (some false))) else (some false)) else (some false))))))) else (none))))))))) = some r := by rw [if_neg (show ¬ (false = true) by decide)] at H; exact H
    clear H
    have H := H1
    clear H1
    replace H := Option.bind_eq_some_iff.mp H
    obtain ⟨⟨t272, t273, t274, t275⟩, A40, H⟩ := H
    replace H : ((impl_TwoMul.f t272 t273 t274 t275).bind fun bt278 => ((impl_TwoTurn.f t272 t273).bind fun bt281 => ((impl_TwoMul.f t272 t273 bt281.1 bt281.2).bind fun bt283 => ((impl_TwoInv.f k t272 t273).bind fun bt286 => ((impl_TwoMul.f t272 t273 bt286.1 bt286.2).bind fun bt288 => ((spec_DrawPlaces.f k l0).bind fun t291 => (if 0 < (t291.length : Int) then ((impl_TwoPow.f k t272 t273 (Int.tmod (rd t291 0) 40)).bind fun bt295 => ((impl_TwoPow.f k t272 t273 3).bind fun bt297 => ((impl_TwoMul.f bt295.1 bt295.2 bt297.1 bt297.2).bind fun bt299 => ((spec_DrawTwoPow.f k l0).bind fun bt302 => ((impl_TwoMul.f t274 t275 t272 t273).bind fun bt306 => (if (bt278.1 == bt306.1 && (bt278.2 == bt306.2)) = true then (if bt283.2 = 0 then (if bt283.1 = 0 then (some false) else (if (bt288.1 == 1 && (bt288.2 == 0)) = true then ((impl_TwoPow.f k t272 t273 (wrap64 ((Int.tmod (rd t291 0) 40) + 3))).bind fun bt308 => (if (bt299.1 == bt308.1 && (bt299.2 == bt308.2)) = true then ((impl_TwoPow.f k bt302.1 bt302.2.1 bt302.2.2).bind fun bt310 => ((spec_TwoPow.f k bt302.1 bt302.2.1 bt302.2.2).bind fun bt312 => (if (bt310.1 == bt312.1 && (bt310.2 == bt312.2)) = true then ((impl_TwoAdd.f t272 t273 t274 t275).bind fun bt314 => ((impl_TwoAdd.f t274 t275 t272 t273).bind fun bt316 => (if (bt314.1 == bt316.1 && (bt314.2 == bt316.2)) = true then ((impl_TwoOk.f bt278.1 bt278.2).bind fun t318 => (some t318)) else (some false)))) else (some false)))) else (some false))) else (some false))) else (some false)) else (some false))))))) else (none)))))))) = some r := H
    have A4 := Aside0.mk A40
    clear A40
    replace H := Option.bind_eq_some_iff.mp H
    obtain ⟨⟨t278, t279⟩, A50, H⟩ := H
    replace H : ((impl_TwoTurn.f t272 t273).bind fun bt281 => ((impl_TwoMul.f t272 t273 bt281.1 bt281.2).bind fun bt283 => ((impl_TwoInv.f k t272 t273).bind fun bt286 => ((impl_TwoMul.f t272 t273 bt286.1 bt286.2).bind fun bt288 => ((spec_DrawPlaces.f k l0).bind fun t291 => (if 0 < (t291.length : Int) then ((impl_TwoPow.f k t272 t273 (Int.tmod (rd t291 0) 40)).bind fun bt295 => ((impl_TwoPow.f k t272 t273 3).bind fun bt297 => ((impl_TwoMul.f bt295.1 bt295.2 bt297.1 bt297.2).bind fun bt299 => ((spec_DrawTwoPow.f k l0).bind fun bt302 => ((impl_TwoMul.f t274 t275 t272 t273).bind fun bt306 => (if (t278 == bt306.1 && (t279 == bt306.2)) = true then (if bt283.2 = 0 then (if bt283.1 = 0 then (some false) else (if (bt288.1 == 1 && (bt288.2 == 0)) = true then ((impl_TwoPow.f k t272 t273 (wrap64 ((Int.tmod (rd t291 0) 40) + 3))).bind fun bt308 => (if (bt299.1 == bt308.1 && (bt299.2 == bt308.2)) = true then ((impl_TwoPow.f k bt302.1 bt302.2.1 bt302.2.2).bind fun bt310 => ((spec_TwoPow.f k bt302.1 bt302.2.1 bt302.2.2).bind fun bt312 => (if (bt310.1 == bt312.1 && (bt310.2 == bt312.2)) = true then ((impl_TwoAdd.f t272 t273 t274 t275).bind fun bt314 => ((impl_TwoAdd.f t274 t275 t272 t273).bind fun bt316 => (if (bt314.1 == bt316.1 && (bt314.2 == bt316.2)) = true then ((impl_TwoOk.f t278 t279).bind fun t318 => (some t318)) else (some false)))) else (some false)))) else (some false))) else (some false))) else (some false)) else (some false))))))) else (none))))))) = some r := H
    have A5 := Aside0.mk A50
    clear A50
    replace H := Option.bind_eq_some_iff.mp H
    obtain ⟨⟨t281, t282⟩, A60, H⟩ := H
    replace H : ((impl_TwoMul.f t272 t273 t281 t282).bind fun bt283 => ((impl_TwoInv.f k t272 t273).bind fun bt286 => ((impl_TwoMul.f t272 t273 bt286.1 bt286.2).bind fun bt288 => ((spec_DrawPlaces.f k l0).bind fun t291 => (if 0 < (t291.length : Int) then ((impl_TwoPow.f k t272 t273 (Int.tmod (rd t291 0) 40)).bind fun bt295 => ((impl_TwoPow.f k t272 t273 3).bind fun bt297 => ((impl_TwoMul.f bt295.1 bt295.2 bt297.1 bt297.2).bind fun bt299 => ((spec_DrawTwoPow.f k l0).bind fun bt302 => ((impl_TwoMul.f t274 t275 t272 t273).bind fun bt306 => (if (t278 == bt306.1 && (t279 == bt306.2)) = true then (if bt283.2 = 0 then (if bt283.1 = 0 then (some false) else (if (bt288.1 == 1 && (bt288.2 == 0)) = true then ((impl_TwoPow.f k t272 t273 (wrap64 ((Int.tmod (rd t291 0) 40) + 3))).bind fun bt308 => (if (bt299.1 == bt308.1 && (bt299.2 == bt308.2)) = true then ((impl_TwoPow.f k bt302.1 bt302.2.1 bt302.2.2).bind fun bt310 => ((spec_TwoPow.f k bt302.1 bt302.2.1 bt302.2.2).bind fun bt312 => (if (bt310.1 == bt312.1 && (bt310.2 == bt312.2)) = true then ((impl_TwoAdd.f t272 t273 t274 t275).bind fun bt314 => ((impl_TwoAdd.f t274 t275 t272 t273).bind fun bt316 => (if (bt314.1 == bt316.1 && (bt314.2 == bt316.2)) = true then ((impl_TwoOk.f t278 t279).bind fun t318 => (some t318)) else (some false)))) else (some false)))) else (some false))) else (some false))) else (some false)) else (some false))))))) else (none)))))) = some r := H
    have A6 := Aside0.mk A60
    clear A60
    replace H := Option.bind_eq_some_iff.mp H
    obtain ⟨⟨t283, t284⟩, A70, H⟩ := H
    replace H : ((impl_TwoInv.f k t272 t273).bind fun bt286 => ((impl_TwoMul.f t272 t273 bt286.1 bt286.2).bind fun bt288 => ((spec_DrawPlaces.f k l0).bind fun t291 => (if 0 < (t291.length : Int) then ((impl_TwoPow.f k t272 t273 (Int.tmod (rd t291 0) 40)).bind fun bt295 => ((impl_TwoPow.f k t272 t273 3).bind fun bt297 => ((impl_TwoMul.f bt295.1 bt295.2 bt297.1 bt297.2).bind fun bt299 => ((spec_DrawTwoPow.f k l0).bind fun bt302 => ((impl_TwoMul.f t274 t275 t272 t273).bind fun bt306 => (if (t278 == bt306.1 && (t279 == bt306.2)) = true then (if t284 = 0 then (if t283 = 0 then (some false) else (if (bt288.1 == 1 && (bt288.2 == 0)) = true then ((impl_TwoPow.f k t272 t273 (wrap64 ((Int.tmod (rd t291 0) 40) + 3))).bind fun bt308 => (if (bt299.1 == bt308.1 && (bt299.2 == bt308.2)) = true then ((impl_TwoPow.f k bt302.1 bt302.2.1 bt302.2.2).bind fun bt310 => ((spec_TwoPow.f k bt302.1 bt302.2.1 bt302.2.2).bind fun bt312 => (if (bt310.1 == bt312.1 && (bt310.2 == bt312.2)) = true then ((impl_TwoAdd.f t272 t273 t274 t275).bind fun bt314 => ((impl_TwoAdd.f t274 t275 t272 t273).bind fun bt316 => (if (bt314.1 == bt316.1 && (bt314.2 == bt316.2)) = true then ((impl_TwoOk.f t278 t279).bind fun t318 => (some t318)) else (some false)))) else (some false)))) else (some false))) else (some false))) else (some false)) else (some false))))))) else (none))))) = some r := H
    have A7 := Aside0.mk A70
    clear A70
    replace H := Option.bind_eq_some_iff.mp H
    obtain ⟨⟨t286, t287⟩, A80, H⟩ := H
    replace H : ((impl_TwoMul.f t272 t273 t286 t287).bind fun bt288 => ((spec_DrawPlaces.f k l0).bind fun t291 => (if 0 < (t291.length : Int) then ((impl_TwoPow.f k t272 t273 (Int.tmod (rd t291 0) 40)).bind fun bt295 => ((impl_TwoPow.f k t272 t273 3).bind fun bt297 => ((impl_TwoMul.f bt295.1 bt295.2 bt297.1 bt297.2).bind fun bt299 => ((spec_DrawTwoPow.f k l0).bind fun bt302 => ((impl_TwoMul.f t274 t275 t272 t273).bind fun bt306 => (if (t278 == bt306.1 && (t279 == bt306.2)) = true then (if t284 = 0 then (if t283 = 0 then (some false) else (if (bt288.1 == 1 && (bt288.2 == 0)) = true then ((impl_TwoPow.f k t272 t273 (wrap64 ((Int.tmod (rd t291 0) 40) + 3))).bind fun bt308 => (if (bt299.1 == bt308.1 && (bt299.2 == bt308.2)) = true then ((impl_TwoPow.f k bt302.1 bt302.2.1 bt302.2.2).bind fun bt310 => ((spec_TwoPow.f k bt302.1 bt302.2.1 bt302.2.2).bind fun bt312 => (if (bt310.1 == bt312.1 && (bt310.2 == bt312.2)) = true then ((impl_TwoAdd.f t272 t273 t274 t275).bind fun bt314 => ((impl_TwoAdd.f t274 t275 t272 t273).bind fun bt316 => (if (bt314.1 == bt316.1 && (bt314.2 == bt316.2)) = true then ((impl_TwoOk.f t278 t279).bind fun t318 => (some t318)) else (some false)))) else (some false)))) else (some false))) else (some false))) else (some false)) else (some false))))))) else (none)))) = some r := H
    have A8 := Aside0.mk A80
    clear A80
    replace H := Option.bind_eq_some_iff.mp H
    obtain ⟨⟨t288, t289⟩, A90, H⟩ := H
    replace H : ((spec_DrawPlaces.f k l0).bind fun t291 => (if 0 < (t291.length : Int) then ((impl_TwoPow.f k t272 t273 (Int.tmod (rd t291 0) 40)).bind fun bt295 => ((impl_TwoPow.f k t272 t273 3).bind fun bt297 => ((impl_TwoMul.f bt295.1 bt295.2 bt297.1 bt297.2).bind fun bt299 => ((spec_DrawTwoPow.f k l0).bind fun bt302 => ((impl_TwoMul.f t274 t275 t272 t273).bind fun bt306 => (if (t278 == bt306.1 && (t279 == bt306.2)) = true then (if t284 = 0 then (if t283 = 0 then (some false) else (if (t288 == 1 && (t289 == 0)) = true then ((impl_TwoPow.f k t272 t273 (wrap64 ((Int.tmod (rd t291 0) 40) + 3))).bind fun bt308 => (if (bt299.1 == bt308.1 && (bt299.2 == bt308.2)) = true then ((impl_TwoPow.f k bt302.1 bt302.2.1 bt302.2.2).bind fun bt310 => ((spec_TwoPow.f k bt302.1 bt302.2.1 bt302.2.2).bind fun bt312 => (if (bt310.1 == bt312.1 && (bt310.2 == bt312.2)) = true then ((impl_TwoAdd.f t272 t273 t274 t275).bind fun bt314 => ((impl_TwoAdd.f t274 t275 t272 t273).bind fun bt316 => (if (bt314.1 == bt316.1 && (bt314.2 == bt316.2)) = true then ((impl_TwoOk.f t278 t279).bind fun t318 => (some t318)) else (some false)))) else (some false)))) else (some false))) else (some false))) else (some false)) else (some false))))))) else (none))) = some r := H
    have A9 := Aside0.mk A90
    clear A90
    replace H := Option.bind_eq_some_iff.mp H
    obtain ⟨t291, A100, H⟩ := H
    replace H : (if 0 < (t291.length : Int) then ((impl_TwoPow.f k t272 t273 (Int.tmod (rd t291 0) 40)).bind fun bt295 => ((impl_TwoPow.f k t272 t273 3).bind fun bt297 => ((impl_TwoMul.f bt295.1 bt295.2 bt297.1 bt297.2).bind fun bt299 => ((spec_DrawTwoPow.f k l0).bind fun bt302 => ((impl_TwoMul.f t274 t275 t272 t273).bind fun bt306 => (if (t278 == bt306.1 && (t279 == bt306.2)) = true then (if t284 = 0 then (if t283 = 0 then (some false) else (if (t288 == 1 && (t289 == 0)) = true then ((impl_TwoPow.f k t272 t273 (wrap64 ((Int.tmod (rd t291 0) 40) + 3))).bind fun bt308 => (if (bt299.1 == bt308.1 && (bt299.2 == bt308.2)) = true then ((impl_TwoPow.f k bt302.1 bt302.2.1 bt302.2.2).bind fun bt310 => ((spec_TwoPow.f k bt302.1 bt302.2.1 bt302.2.2).bind fun bt312 => (if (bt310.1 == bt312.1 && (bt310.2 == bt312.2)) = true then ((impl_TwoAdd.f t272 t273 t274 t275).bind fun bt314 => ((impl_TwoAdd.f t274 t275 t272 t273).bind fun bt316 => (if (bt314.1 == bt316.1 && (bt314.2 == bt316.2)) = true then ((impl_TwoOk.f t278 t279).bind fun t318 => (some t318)) else (some false)))) else (some false)))) else (some false))) else (some false))) else (some false)) else (some false))))))) else (none)) = some r := H
    have A10 := Aside0.mk A100
    clear A100
    by_cases c11 : 0 < (t291.length : Int)
    · rw [if_pos c11] at H
      have c11b0 : decide (0 < (t291.length : Int)) = true := decide_eq_true c11
      have c11b1 : decide (0 < t291.length) = true := decide_eq_true (by omega)
      clear c11
      replace H := Option.bind_eq_some_iff.mp H
      obtain ⟨⟨t295, t296⟩, A120, H⟩ := H
      replace H : ((impl_TwoPow.f k t272 t273 3).bind fun bt297 => ((impl_TwoMul.f t295 t296 bt297.1 bt297.2).bind fun bt299 => ((spec_DrawTwoPow.f k l0).bind fun bt302 => ((impl_TwoMul.f t274 t275 t272 t273).bind fun bt306 => (if (t278 == bt306.1 && (t279 == bt306.2)) = true then (if t284 = 0 then (if t283 = 0 then (some false) else (if (t288 == 1 && (t289 == 0)) = true then ((impl_TwoPow.f k t272 t273 (wrap64 ((Int.tmod (rd t291 0) 40) + 3))).bind fun bt308 => (if (bt299.1 == bt308.1 && (bt299.2 == bt308.2)) = true then ((impl_TwoPow.f k bt302.1 bt302.2.1 bt302.2.2).bind fun bt310 => ((spec_TwoPow.f k bt302.1 bt302.2.1 bt302.2.2).bind fun bt312 => (if (bt310.1 == bt312.1 && (bt310.2 == bt312.2)) = true then ((impl_TwoAdd.f t272 t273 t274 t275).bind fun bt314 => ((impl_TwoAdd.f t274 t275 t272 t273).bind fun bt316 => (if (bt314.1 == bt316.1 && (bt314.2 == bt316.2)) = true then ((impl_TwoOk.f t278 t279).bind fun t318 => (some t318)) else (some false)))) else (some false)))) else (some false))) else (some false))) else (some false)) else (some false)))))) = some r := H
      have A12 := Aside0.mk A120
      clear A120
      replace H := Option.bind_eq_some_iff.mp H
      obtain ⟨⟨t297, t298⟩, A130, H⟩ := H
      replace H : ((impl_TwoMul.f t295 t296 t297 t298).bind fun bt299 => ((spec_DrawTwoPow.f k l0).bind fun bt302 => ((impl_TwoMul.f t274 t275 t272 t273).bind fun bt306 => (if (t278 == bt306.1 && (t279 == bt306.2)) = true then (if t284 = 0 then (if t283 = 0 then (some false) else (if (t288 == 1 && (t289 == 0)) = true then ((impl_TwoPow.f k t272 t273 (wrap64 ((Int.tmod (rd t291 0) 40) + 3))).bind fun bt308 => (if (bt299.1 == bt308.1 && (bt299.2 == bt308.2)) = true then ((impl_TwoPow.f k bt302.1 bt302.2.1 bt302.2.2).bind fun bt310 => ((spec_TwoPow.f k bt302.1 bt302.2.1 bt302.2.2).bind fun bt312 => (if (bt310.1 == bt312.1 && (bt310.2 == bt312.2)) = true then ((impl_TwoAdd.f t272 t273 t274 t275).bind fun bt314 => ((impl_TwoAdd.f t274 t275 t272 t273).bind fun bt316 => (if (bt314.1 == bt316.1 && (bt314.2 == bt316.2)) = true then ((impl_TwoOk.f t278 t279).bind fun t318 => (some t318)) else (some false)))) else (some false)))) else (some false))) else (some false))) else (some false)) else (some false))))) = some r := H
      have A13 := Aside0.mk A130
      clear A130
      replace H := Option.bind_eq_some_iff.mp H
      obtain ⟨⟨t299, t300⟩, A140, H⟩ := H
      replace H : ((spec_DrawTwoPow.f k l0).bind fun bt302 => ((impl_TwoMul.f t274 t275 t272 t273).bind fun bt306 => (if (t278 == bt306.1 && (t279 == bt306.2)) = true then (if t284 = 0 then (if t283 = 0 then (some false) else (if (t288 == 1 && (t289 == 0)) = true then ((impl_TwoPow.f k t272 t273 (wrap64 ((Int.tmod (rd t291 0) 40) + 3))).bind fun bt308 => (if (t299 == bt308.1 && (t300 == bt308.2)) = true then ((impl_TwoPow.f k bt302.1 bt302.2.1 bt302.2.2).bind fun bt310 => ((spec_TwoPow.f k bt302.1 bt302.2.1 bt302.2.2).bind fun bt312 => (if (bt310.1 == bt312.1 && (bt310.2 == bt312.2)) = true then ((impl_TwoAdd.f t272 t273 t274 t275).bind fun bt314 => ((impl_TwoAdd.f t274 t275 t272 t273).bind fun bt316 => (if (bt314.1 == bt316.1 && (bt314.2 == bt316.2)) = true then ((impl_TwoOk.f t278 t279).bind fun t318 => (some t318)) else (some false)))) else (some false)))) else (some false))) else (some false))) else (some false)) else (some false)))) = some r := H
      have A14 := Aside0.mk A140
      clear A140
      replace H := Option.bind_eq_some_iff.mp H
      obtain ⟨⟨t302, t303, t304⟩, A150, H⟩ := H
      replace H : ((impl_TwoMul.f t274 t275 t272 t273).bind fun bt306 => (if (t278 == bt306.1 && (t279 == bt306.2)) = true then (if t284 = 0 then (if t283 = 0 then (some false) else (if (t288 == 1 && (t289 == 0)) = true then ((impl_TwoPow.f k t272 t273 (wrap64 ((Int.tmod (rd t291 0) 40) + 3))).bind fun bt308 => (if (t299 == bt308.1 && (t300 == bt308.2)) = true then ((impl_TwoPow.f k t302 t303 t304).bind fun bt310 => ((spec_TwoPow.f k t302 t303 t304).bind fun bt312 => (if (bt310.1 == bt312.1 && (bt310.2 == bt312.2)) = true then ((impl_TwoAdd.f t272 t273 t274 t275).bind fun bt314 => ((impl_TwoAdd.f t274 t275 t272 t273).bind fun bt316 => (if (bt314.1 == bt316.1 && (bt314.2 == bt316.2)) = true then ((impl_TwoOk.f t278 t279).bind fun t318 => (some t318)) else (some false)))) else (some false)))) else (some false))) else (some false))) else (some false)) else (some false))) = some r := H
      have A15 := Aside0.mk A150
      clear A150
      replace H := Option.bind_eq_some_iff.mp H
      obtain ⟨⟨t306, t307⟩, A160, H⟩ := H
      replace H : (if (t278 == t306 && (t279 == t307)) = true then (if t284 = 0 then (if t283 = 0 then (some false) else (if (t288 == 1 && (t289 == 0)) = true then ((impl_TwoPow.f k t272 t273 (wrap64 ((Int.tmod (rd t291 0) 40) + 3))).bind fun bt308 => (if (t299 == bt308.1 && (t300 == bt308.2)) = true then ((impl_TwoPow.f k t302 t303 t304).bind fun bt310 => ((spec_TwoPow.f k t302 t303 t304).bind fun bt312 => (if (bt310.1 == bt312.1 && (bt310.2 == bt312.2)) = true then ((impl_TwoAdd.f t272 t273 t274 t275).bind fun bt314 => ((impl_TwoAdd.f t274 t275 t272 t273).bind fun bt316 => (if (bt314.1 == bt316.1 && (bt314.2 == bt316.2)) = true then ((impl_TwoOk.f t278 t279).bind fun t318 => (some t318)) else (some false)))) else (some false)))) else (some false))) else (some false))) else (some false)) else (some false)) = some r := H
      have A16 := Aside0.mk A160
      clear A160
      by_cases c17 : (t278 == t306 && (t279 == t307)) = true
      · rw [if_pos c17] at H
        have c17b0 : (t278 == t306 && (t279 == t307)) = true := c17
        (try (have c17b1 : decide (t278 = t306 && (t279 == t307)) = true := by simpa using c17))
        (try (have c17b2 : (t278 == t306 && (t279 == t307)) = true := by simpa using c17))
        clear c17
        by_cases c18 : t284 = 0
        · rw [if_pos c18] at H
          have c18b0 : (t284 == 0) = true := beq_iff_eq.mpr c18
          have c18b1 : (t284 != 0) = false := bne_eq_false_iff_eq.mpr c18
          clear c18
          by_cases c19 : t283 = 0
          · rw [if_pos c19] at H
            have c19b0 : (t283 == 0) = true := beq_iff_eq.mpr c19
            have c19b1 : (t283 != 0) = false := bne_eq_false_iff_eq.mpr c19
            clear c19
            exact absurd ((Option.some.inj H).trans HR.out) (by decide)
          · rw [if_neg c19] at H
            have c19b0 : (t283 == 0) = false := beq_eq_false_iff_ne.mpr c19
            have c19b1 : (t283 != 0) = true := bne_iff_ne.mpr c19
            by_cases c69 : (t288 == 1 && (t289 == 0)) = true
            · rw [if_pos c69] at H
              have c69b0 : (t288 == 1 && (t289 == 0)) = true := c69
              (try (have c69b1 : decide (t288 = 1 && (t289 == 0)) = true := by simpa using c69))
              (try (have c69b2 : (t288 == 1 && (t289 == 0)) = true := by simpa using c69))
              clear c69
              replace H := Option.bind_eq_some_iff.mp H
              obtain ⟨⟨t308, t309⟩, A700, H⟩ := H
              replace H : (if (t299 == t308 && (t300 == t309)) = true then ((impl_TwoPow.f k t302 t303 t304).bind fun bt310 => ((spec_TwoPow.f k t302 t303 t304).bind fun bt312 => (if (bt310.1 == bt312.1 && (bt310.2 == bt312.2)) = true then ((impl_TwoAdd.f t272 t273 t274 t275).bind fun bt314 => ((impl_TwoAdd.f t274 t275 t272 t273).bind fun bt316 => (if (bt314.1 == bt316.1 && (bt314.2 == bt316.2)) = true then ((impl_TwoOk.f t278 t279).bind fun t318 => (some t318)) else (some false)))) else (some false)))) else (some false)) = some r := H
              have A70 := Aside0.mk A700
              clear A700
              by_cases c71 : (t299 == t308 && (t300 == t309)) = true
              · rw [if_pos c71] at H
                have c71b0 : (t299 == t308 && (t300 == t309)) = true := c71
                (try (have c71b1 : decide (t299 = t308 && (t300 == t309)) = true := by simpa using c71))
                (try (have c71b2 : (t299 == t308 && (t300 == t309)) = true := by simpa using c71))
                clear c71
                replace H := Option.bind_eq_some_iff.mp H
                obtain ⟨⟨t310, t311⟩, A720, H⟩ := H
                replace H : ((spec_TwoPow.f k t302 t303 t304).bind fun bt312 => (if (t310 == bt312.1 && (t311 == bt312.2)) = true then ((impl_TwoAdd.f t272 t273 t274 t275).bind fun bt314 => ((impl_TwoAdd.f t274 t275 t272 t273).bind fun bt316 => (if (bt314.1 == bt316.1 && (bt314.2 == bt316.2)) = true then ((impl_TwoOk.f t278 t279).bind fun t318 => (some t318)) else (some false)))) else (some false))) = some r := H
                have A72 := Aside0.mk A720
                clear A720
                replace H := Option.bind_eq_some_iff.mp H
                obtain ⟨⟨t312, t313⟩, A730, H⟩ := H
                replace H : (if (t310 == t312 && (t311 == t313)) = true then ((impl_TwoAdd.f t272 t273 t274 t275).bind fun bt314 => ((impl_TwoAdd.f t274 t275 t272 t273).bind fun bt316 => (if (bt314.1 == bt316.1 && (bt314.2 == bt316.2)) = true then ((impl_TwoOk.f t278 t279).bind fun t318 => (some t318)) else (some false)))) else (some false)) = some r := H
                have A73 := Aside0.mk A730
                clear A730
                by_cases c74 : (t310 == t312 && (t311 == t313)) = true
                · rw [if_pos c74] at H
                  have c74b0 : (t310 == t312 && (t311 == t313)) = true := c74
                  (try (have c74b1 : decide (t310 = t312 && (t311 == t313)) = true := by simpa using c74))
                  (try (have c74b2 : (t310 == t312 && (t311 == t313)) = true := by simpa using c74))
                  clear c74
                  replace H := Option.bind_eq_some_iff.mp H
                  obtain ⟨⟨t314, t315⟩, A750, H⟩ := H
                  replace H : ((impl_TwoAdd.f t274 t275 t272 t273).bind fun bt316 => (if (t314 == bt316.1 && (t315 == bt316.2)) = true then ((impl_TwoOk.f t278 t279).bind fun t318 => (some t318)) else (some false))) = some r := H
                  have A75 := Aside0.mk A750
                  clear A750
                  replace H := Option.bind_eq_some_iff.mp H
                  obtain ⟨⟨t316, t317⟩, A760, H⟩ := H
                  replace H : (if (t314 == t316 && (t315 == t317)) = true then ((impl_TwoOk.f t278 t279).bind fun t318 => (some t318)) else (some false)) = some r := H
                  have A76 := Aside0.mk A760
                  clear A760
                  by_cases c77 : (t314 == t316 && (t315 == t317)) = true
                  · rw [if_pos c77] at H
                    have c77b0 : (t314 == t316 && (t315 == t317)) = true := c77
                    (try (have c77b1 : decide (t314 = t316 && (t315 == t317)) = true := by simpa using c77))
                    (try (have c77b2 : (t314 == t316 && (t315 == t317)) = true := by simpa using c77))
                    clear c77
                    replace H := Option.bind_eq_some_iff.mp H
                    obtain ⟨t318, A780, H⟩ := H
                    replace H : (some t318) = some r := H
                    have A78 := Aside0.mk A780
                    clear A780
                    obtain rfl := Option.some.inj H
                    have hfin := HR.out
                    go_enter Try.func9, Try.ntmps9
                    try go_wp2_with (first | ((with_reducible refine gate_callee (f := 19) rfl ?_); refine goesL_ (some 13) rfl rfl Try.func19 (by kernel_rfl) rfl #[.slice A0 l0.length c0] rfl (by (try simp only [List.map_toArray, List.map_cons, List.map_nil]); first | done | rfl | (simp only [List.length_drop, List.length_take]; rfl)) ?_; (with_reducible refine (laws_big.calls _ _ l0 false _ ?side1 ?side2 A2.out).mono ?_); (case side1 => repeat (first | exact HR0.out | (with_reducible refine Kd.C_alloc ?_ _) | (with_reducible refine Kd.C_drewN ?_ _) | (with_reducible refine Kd.C_drew ?_))); (case side2 => exact HC0.out); rintro e w' ⟨rfl, ⟨nd, rfl⟩⟩; refine ⟨_, rfl, ?_⟩) | ((with_reducible refine gate_callee (f := 44) rfl ?_); refine goesL_ (some 16) rfl rfl Try.func44 (by kernel_rfl) rfl #[.slice A0 l0.length c0] rfl (by (try simp only [List.map_toArray, List.map_cons, List.map_nil]); first | done | rfl | (simp only [List.length_drop, List.length_take]; rfl)) ?_; (with_reducible refine (spec_DrawTwos.calls k _ _ l0 t272 t273 t274 t275 _ ?side1 ?side2 A4.out).mono ?_); (case side1 => repeat (first | exact HR0.out | (with_reducible refine Kd.C_alloc ?_ _) | (with_reducible refine Kd.C_drewN ?_ _) | (with_reducible refine Kd.C_drew ?_))); (case side2 => exact HC0.out); rintro e w79 ⟨rfl, hb⟩; refine ⟨_, rfl, ?_⟩; have n0_ := Aside0.mk (below_step (by repeat (first | (with_reducible first | exact HB.out | apply below_alloc | apply pw_below_drewN | apply below_drew1) | exact HB.out)) hb); clear HB; have HB := n0_; clear n0_; (try clear hb); (try clear hb2); (try clear hk); (try clear hi)) | ((with_reducible refine gate_dst (N := 3) rfl ?_); refine box_event ?hg (N := 3) ?hd (cs := #[.int .i64 0, .int .i64 0]) (t := 50) ?hr ?_; (case hd => rfl); (case hg => rfl); (case hr => first | (go_simp; done) | (go_simp; rfl)); intro gb276 hg w80 hbox hb; have n0_ := Aside0.mk (below_step (by repeat (first | (with_reducible first | exact HB.out | apply below_alloc | apply pw_below_drewN | apply below_drew1) | exact HB.out)) hb); have n1_ := Aside0.mk (hbox); have n2_ := Aside0.mk ((by rw [hg]; exact (below_size (by repeat (first | (with_reducible first | exact HB.out | apply below_alloc | apply pw_below_drewN | apply below_drew1) | exact HB.out))) : w.heap.size ≤ gb276)); have n3_ := Aside0.mk ((by rw [hg]; exact (below_size (by repeat (first | (with_reducible first | exact HB.out | apply below_alloc | apply pw_below_drewN | apply below_drew1) | exact HB.out))) : w.heap.size ≤ gb276)); clear HB; have HB := n0_; have BK276 := n1_; have GW276 := n2_; have GE276 := n3_; clear n0_ n1_ n2_ n3_; clear hb hbox hg) | ((with_reducible refine gate_dst (N := 4) rfl ?_); refine box_event ?hg (N := 4) ?hd (cs := #[.int .i64 0, .int .i64 0]) (t := 50) ?hr ?_; (case hd => rfl); (case hg => rfl); (case hr => first | (go_simp; done) | (go_simp; rfl)); intro gb277 hg w81 hbox hb; have n0_ := Aside0.mk (blk_below (g := gb276) (o := .cells #[.int .i64 0, .int .i64 0] 50 (0, 0)) (by exact BK276.out) hb); have n1_ := Aside0.mk (below_step (by repeat (first | (with_reducible first | exact HB.out | apply below_alloc | apply pw_below_drewN | apply below_drew1 | refine below_set ?_ GE276.out) | exact HB.out)) hb); have n2_ := Aside0.mk (hbox); have n3_ := Aside0.mk ((by rw [hg]; exact (below_size (by repeat (first | (with_reducible first | exact HB.out | apply below_alloc | apply pw_below_drewN | apply below_drew1 | refine below_set ?_ GE276.out) | exact HB.out))) : w.heap.size ≤ gb277)); have n4_ := Aside0.mk ((by rw [hg]; exact (below_size (by repeat (first | (with_reducible first | exact HB.out | apply below_alloc | apply pw_below_drewN | apply below_drew1 | refine below_set ?_ GE276.out) | exact HB.out))) : w.heap.size ≤ gb277)); have n5_ := Aside0.mk ((by rw [hg]; exact Nat.ne_of_lt (blk_lt (g := gb276) (o := .cells #[.int .i64 0, .int .i64 0] 50 (0, 0)) (by exact BK276.out)) : gb276 ≠ gb277)); have n6_ := Aside0.mk ((by rw [hg]; exact Nat.ne_of_gt (blk_lt (g := gb276) (o := .cells #[.int .i64 0, .int .i64 0] 50 (0, 0)) (by exact BK276.out)) : gb277 ≠ gb276)); clear BK276; clear HB; have BK276 := n0_; have HB := n1_; have BK277 := n2_; have GW277 := n3_; have GE277 := n4_; have NB276_277 := n5_; have NB277_276 := n6_; clear n0_ n1_ n2_ n3_ n4_ n5_ n6_; clear hb hbox hg; have hnb82 := NB276_277.out; have hnc82 := NB277_276.out; have hcz83_0 : w81.cell? ⟨gb276, 0, none⟩ = some (.int .i64 0) := (blk_cell BK276.out 0).trans rfl; have hcz83_1 : w81.cell? ⟨gb276, 1, none⟩ = some (.int .i64 0) := (blk_cell BK276.out 1).trans rfl; have hfz83_0 := blk_frozen BK276.out 0; have hfz83_1 := blk_frozen BK276.out 1; have hcz84_0 : w81.cell? ⟨gb277, 0, none⟩ = some (.int .i64 0) := (blk_cell BK277.out 0).trans rfl; have hcz84_1 : w81.cell? ⟨gb277, 1, none⟩ = some (.int .i64 0) := (blk_cell BK277.out 1).trans rfl; have hfz84_0 := blk_frozen BK277.out 0; have hfz84_1 := blk_frozen BK277.out 1) | ((with_reducible refine gate_callee (f := 45) rfl ?_); refine goesL_ (some 21) rfl rfl Try.func45 (by kernel_rfl) rfl #[.agg #[.int .i64 t272, .int .i64 t273], .agg #[.int .i64 t274, .int .i64 t275]] rfl (by (try simp only [List.map_toArray, List.map_cons, List.map_nil]); first | done | rfl | (simp only [List.length_drop, List.length_take]; rfl)) ?_; (with_reducible refine (impl_TwoMul.calls t272 t273 t274 t275 t278 t279 _ A5.out).mono ?_); rintro e w85 ⟨rfl, hb⟩; refine ⟨_, rfl, ?_⟩; have n0_ := Aside0.mk (blk_below (g := gb276) (o := .cells #[.int .i64 t272, .int .i64 t273] 50 (0, 0)) (by (with_reducible repeat (first | refine blk_drewN ?_ _ | refine blk_drew ?_ | refine blk_alloc ?_ _)); refine blk_far ?_ NB276_277.out _; (with_reducible repeat (first | refine blk_drewN ?_ _ | refine blk_drew ?_ | refine blk_alloc ?_ _)); refine blk_far ?_ NB276_277.out _; (with_reducible repeat (first | refine blk_drewN ?_ _ | refine blk_drew ?_ | refine blk_alloc ?_ _)); refine blk_put (cs := #[.int .i64 t272, .int .i64 0]) ?_ 1 _ rfl; (with_reducible repeat (first | refine blk_drewN ?_ _ | refine blk_drew ?_ | refine blk_alloc ?_ _)); refine blk_put (cs := #[.int .i64 0, .int .i64 0]) ?_ 0 _ rfl; exact BK276.out) hb); have n1_ := Aside0.mk (blk_below (g := gb277) (o := .cells #[.int .i64 t274, .int .i64 t275] 50 (0, 0)) (by (with_reducible repeat (first | refine blk_drewN ?_ _ | refine blk_drew ?_ | refine blk_alloc ?_ _)); refine blk_put (cs := #[.int .i64 t274, .int .i64 0]) ?_ 1 _ rfl; (with_reducible repeat (first | refine blk_drewN ?_ _ | refine blk_drew ?_ | refine blk_alloc ?_ _)); refine blk_put (cs := #[.int .i64 0, .int .i64 0]) ?_ 0 _ rfl; (with_reducible repeat (first | refine blk_drewN ?_ _ | refine blk_drew ?_ | refine blk_alloc ?_ _)); refine blk_far ?_ NB277_276.out _; (with_reducible repeat (first | refine blk_drewN ?_ _ | refine blk_drew ?_ | refine blk_alloc ?_ _)); refine blk_far ?_ NB277_276.out _; exact BK277.out) hb); have n2_ := Aside0.mk (below_step (by repeat (first | (with_reducible first | exact HB.out | apply below_alloc | apply pw_below_drewN | apply below_drew1 | refine below_set ?_ GE276.out | refine below_set ?_ GE277.out) | exact HB.out)) hb); clear BK276; clear BK277; clear HB; have BK276 := n0_; have BK277 := n1_; have HB := n2_; clear n0_ n1_ n2_; (try clear hb); (try clear hb2); (try clear hk); (try clear hi)) | ((with_reducible refine gate_dst (N := 5) rfl ?_); refine box_event ?hg (N := 5) ?hd (cs := #[.int .i64 0, .int .i64 0]) (t := 50) ?hr ?_; (case hd => rfl); (case hg => rfl); (case hr => first | (go_simp; done) | (go_simp; rfl)); intro gb280 hg w86 hbox hb; have n0_ := Aside0.mk (blk_below (g := gb276) (o := .cells #[.int .i64 t272, .int .i64 t273] 50 (0, 0)) (by exact BK276.out) hb); have n1_ := Aside0.mk (blk_below (g := gb277) (o := .cells #[.int .i64 t274, .int .i64 t275] 50 (0, 0)) (by exact BK277.out) hb); have n2_ := Aside0.mk (below_step (by repeat (first | (with_reducible first | exact HB.out | apply below_alloc | apply pw_below_drewN | apply below_drew1 | refine below_set ?_ GE276.out | refine below_set ?_ GE277.out) | exact HB.out)) hb); have n3_ := Aside0.mk (hbox); have n4_ := Aside0.mk ((by rw [hg]; exact (below_size (by repeat (first | (with_reducible first | exact HB.out | apply below_alloc | apply pw_below_drewN | apply below_drew1 | refine below_set ?_ GE276.out | refine below_set ?_ GE277.out) | exact HB.out))) : w.heap.size ≤ gb280)); have n5_ := Aside0.mk ((by rw [hg]; exact (below_size (by repeat (first | (with_reducible first | exact HB.out | apply below_alloc | apply pw_below_drewN | apply below_drew1 | refine below_set ?_ GE276.out | refine below_set ?_ GE277.out) | exact HB.out))) : w.heap.size ≤ gb280)); have n6_ := Aside0.mk ((by rw [hg]; exact Nat.ne_of_lt (blk_lt (g := gb276) (o := .cells #[.int .i64 t272, .int .i64 t273] 50 (0, 0)) (by exact BK276.out)) : gb276 ≠ gb280)); have n7_ := Aside0.mk ((by rw [hg]; exact Nat.ne_of_gt (blk_lt (g := gb276) (o := .cells #[.int .i64 t272, .int .i64 t273] 50 (0, 0)) (by exact BK276.out)) : gb280 ≠ gb276)); have n8_ := Aside0.mk ((by rw [hg]; exact Nat.ne_of_lt (blk_lt (g := gb277) (o := .cells #[.int .i64 t274, .int .i64 t275] 50 (0, 0)) (by exact BK277.out)) : gb277 ≠ gb280)); have n9_ := Aside0.mk ((by rw [hg]; exact Nat.ne_of_gt (blk_lt (g := gb277) (o := .cells #[.int .i64 t274, .int .i64 t275] 50 (0, 0)) (by exact BK277.out)) : gb280 ≠ gb277)); clear BK276; clear BK277; clear HB; have BK276 := n0_; have BK277 := n1_; have HB := n2_; have BK280 := n3_; have GW280 := n4_; have GE280 := n5_; have NB276_280 := n6_; have NB280_276 := n7_; have NB277_280 := n8_; have NB280_277 := n9_; clear n0_ n1_ n2_ n3_ n4_ n5_ n6_ n7_ n8_ n9_; clear hb hbox hg; have hnb87 := NB280_276.out; have hnc87 := NB276_280.out; have hnb88 := NB280_277.out; have hnc88 := NB277_280.out; have hcz89_0 : w86.cell? ⟨gb280, 0, none⟩ = some (.int .i64 0) := (blk_cell BK280.out 0).trans rfl; have hcz89_1 : w86.cell? ⟨gb280, 1, none⟩ = some (.int .i64 0) := (blk_cell BK280.out 1).trans rfl; have hfz89_0 := blk_frozen BK280.out 0; have hfz89_1 := blk_frozen BK280.out 1))
                    have n0_ : Aside0 (((w86.setCell ⟨gb280, 0, none⟩ (.int .i64 t278)).setCell ⟨gb280, 1, none⟩ (.int .i64 t279)).heap[gb276]? = some (.cells #[.int .i64 t272, .int .i64 t273] 50 (0, 0))) := ⟨by (with_reducible repeat (first | refine blk_drewN ?_ _ | refine blk_drew ?_ | refine blk_alloc ?_ _)); refine blk_far ?_ NB276_280.out _; (with_reducible repeat (first | refine blk_drewN ?_ _ | refine blk_drew ?_ | refine blk_alloc ?_ _)); refine blk_far ?_ NB276_280.out _; exact BK276.out⟩
                    have n1_ : Aside0 (((w86.setCell ⟨gb280, 0, none⟩ (.int .i64 t278)).setCell ⟨gb280, 1, none⟩ (.int .i64 t279)).heap[gb277]? = some (.cells #[.int .i64 t274, .int .i64 t275] 50 (0, 0))) := ⟨by (with_reducible repeat (first | refine blk_drewN ?_ _ | refine blk_drew ?_ | refine blk_alloc ?_ _)); refine blk_far ?_ NB277_280.out _; (with_reducible repeat (first | refine blk_drewN ?_ _ | refine blk_drew ?_ | refine blk_alloc ?_ _)); refine blk_far ?_ NB277_280.out _; exact BK277.out⟩
                    have n2_ : Aside0 (((w86.setCell ⟨gb280, 0, none⟩ (.int .i64 t278)).setCell ⟨gb280, 1, none⟩ (.int .i64 t279)).heap[gb280]? = some (.cells #[.int .i64 t278, .int .i64 t279] 50 (0, 0))) := ⟨by (with_reducible repeat (first | refine blk_drewN ?_ _ | refine blk_drew ?_ | refine blk_alloc ?_ _)); refine blk_put (cs := #[.int .i64 t278, .int .i64 0]) ?_ 1 _ rfl; (with_reducible repeat (first | refine blk_drewN ?_ _ | refine blk_drew ?_ | refine blk_alloc ?_ _)); refine blk_put (cs := #[.int .i64 0, .int .i64 0]) ?_ 0 _ rfl; exact BK280.out⟩
                    have n3_ : Aside0 (Below w.heap.size w ((w86.setCell ⟨gb280, 0, none⟩ (.int .i64 t278)).setCell ⟨gb280, 1, none⟩ (.int .i64 t279))) := ⟨by repeat (first | (with_reducible first | exact HB.out | apply below_alloc | apply pw_below_drewN | apply below_drew1 | refine below_set ?_ GE276.out | refine below_set ?_ GE277.out | refine below_set ?_ GE280.out) | exact HB.out)⟩
                    (try clear BK276)
                    (try clear BK277)
                    (try clear BK280)
                    (try clear HB)
                    generalize ((w86.setCell ⟨gb280, 0, none⟩ (.int .i64 t278)).setCell ⟨gb280, 1, none⟩ (.int .i64 t279)) = w90 at n0_ n1_ n2_ n3_ ⊢
                    have BK276 := n0_
                    have BK277 := n1_
                    have BK280 := n2_
                    have HB := n3_
                    clear n0_ n1_ n2_ n3_
                    have n0_ := Aside0.mk (blk_drew BK276.out)
                    have n1_ := Aside0.mk (blk_drew BK277.out)
                    have n2_ := Aside0.mk (blk_drew BK280.out)
                    have n3_ := Aside0.mk (below_drew1 HB.out)
                    clear BK276
                    clear BK277
                    clear BK280
                    clear HB
                    have BK276 := n0_
                    have BK277 := n1_
                    have BK280 := n2_
                    have HB := n3_
                    clear n0_ n1_ n2_ n3_
                    refine start_ (n := 6) (S := fun w' => w'.cell? ⟨gb276, 0, none⟩ = some (.int .i64 t272) ∧ w'.cell? ⟨gb276, 1, none⟩ = some (.int .i64 t273)) (ds := []) #[false, false, false, false, false, false] (by kernel_rfl) rfl rfl ⟨(blk_cell BK276.out 0).trans rfl, (blk_cell BK276.out 1).trans rfl⟩ (fun hHeld => ?_)
                    generalize w90.drew = w91 at BK276 BK277 BK280 HB hHeld ⊢
                    refine take_ (i := 0) (N := some 22) (v := ?_) (a' := ?_) #[true, false, false, false, false, false] rfl rfl (by kernel_rfl) (fun _ _ _ h => h) (Or.inl ⟨by rfl, ?_⟩) hHeld ?_ ?_
                    rotate_left
                    · rintro w' ⟨s0, s1⟩
                      go_simp
                      with_reducible rfl
                    rotate_left
                    · simp only [Act.put, List.setIfInBounds_toArray, List.set_cons_zero, List.set_cons_succ, i64_w, i32_w]
                      rfl
                    refine take_ (i := 1) (N := some 23) (v := ?_) (a' := ?_) #[true, true, false, false, false, false] rfl rfl (by kernel_rfl) (fun _ _ _ h => h) (Or.inl ⟨by rfl, ?_⟩) hHeld ?_ ?_
                    rotate_left
                    · rintro w' ⟨s0, s1⟩
                      go_simp
                      with_reducible rfl
                    rotate_left
                    · simp only [Act.put, List.setIfInBounds_toArray, List.set_cons_zero, List.set_cons_succ, i64_w, i32_w]
                      rfl
                    refine join_ (σ := Nat) 1 #[true, true, true, true, true, false] (fun s_ => [(24, .agg #[.int .i64 t281, .int .i64 t282]), (25, .agg #[.int .i64 t283, .int .i64 t284]), (6, .pointer (some ⟨s_, 0, none⟩))]) (fun s_ w' => (w'.cell? ⟨gb276, 0, none⟩ = some (.int .i64 t272) ∧ w'.cell? ⟨gb276, 1, none⟩ = some (.int .i64 t273)) ∧ (w'.heap[gb276]? = some (.cells #[.int .i64 t272, .int .i64 t273] 50 (0, 0))) ∧ (w'.heap[gb277]? = some (.cells #[.int .i64 t274, .int .i64 t275] 50 (0, 0))) ∧ (w'.heap[gb280]? = some (.cells #[.int .i64 t278, .int .i64 t279] 50 (0, 0))) ∧ (w'.heap[s_]? = some (.cells #[.int .i64 0, .int .i64 0] 50 (0, 0))) ∧ (w.heap.size ≤ s_) ∧ (w.heap.size ≤ s_) ∧ (gb276 ≠ s_) ∧ (s_ ≠ gb276) ∧ (gb277 ≠ s_) ∧ (s_ ≠ gb277) ∧ (gb280 ≠ s_) ∧ (s_ ≠ gb280) ∧ (Below w.heap.size w w')) ?_ ?_
                    rotate_left
                    · intro hCont
                      refine two_ (i := 2) (j := 4) (Ni := some 24) (Nj := some 6) #[true, true, true, false, false, false] #[true, true, false, false, true, false] rfl rfl rfl rfl (by kernel_rfl) (by decide) (by decide) (fun K hK => ?_) (fun K hK => ?_)
                      · skip
                        refine goes_ Try.func46 (by kernel_rfl) rfl #[.agg #[.int .i64 t272, .int .i64 t273]] (by rfl) rfl rfl (by (try simp only [List.map_toArray, List.map_cons, List.map_nil]); first | done | rfl | (simp only [List.length_drop, List.length_take]; rfl)) ?_
                        with_reducible refine (impl_TwoTurn.calls t272 t273 t281 t282 _ A6.out).mono ?_
                        rintro e w92 ⟨rfl, hb⟩
                        refine ⟨_, rfl, ?_⟩
                        have n0_ := Aside0.mk (blk_below (g := gb276) (o := .cells #[.int .i64 t272, .int .i64 t273] 50 (0, 0)) (by exact BK276.out) hb)
                        have n1_ := Aside0.mk (blk_below (g := gb277) (o := .cells #[.int .i64 t274, .int .i64 t275] 50 (0, 0)) (by exact BK277.out) hb)
                        have n2_ := Aside0.mk (blk_below (g := gb280) (o := .cells #[.int .i64 t278, .int .i64 t279] 50 (0, 0)) (by exact BK280.out) hb)
                        have n3_ := Aside0.mk (below_step (by repeat (first | (with_reducible first | exact HB.out | apply below_alloc | apply pw_below_drewN | apply below_drew1 | refine below_set ?_ GE276.out | refine below_set ?_ GE277.out | refine below_set ?_ GE280.out) | exact HB.out)) hb)
                        clear BK276
                        clear BK277
                        clear BK280
                        clear HB
                        have BK276 := n0_
                        have BK277 := n1_
                        have BK280 := n2_
                        have HB := n3_
                        clear n0_ n1_ n2_ n3_
                        (try clear hb)
                        (try clear hb2)
                        (try clear hk)
                        (try clear hi)
                        refine hK.out _ _ ⟨(blk_cell BK276.out 0).trans rfl, (blk_cell BK276.out 1).trans rfl⟩ (fun hHeld => ?_)
                        clear hK K
                        refine norm_ (a' := ?_) ?_ ?_
                        rotate_left
                        · show Act.put _ (some 24) _ = _
                          simp only [Act.put, List.setIfInBounds_toArray, List.set_cons_zero, List.set_cons_succ, i64_w, i32_w]
                          rfl
                        refine two_ (i := 3) (j := 4) (Ni := some 25) (Nj := some 6) #[true, true, true, true, false, false] #[true, true, true, false, true, false] rfl rfl rfl rfl (by kernel_rfl) (by decide) (by decide) (fun K hK => ?_) (fun K hK => ?_)
                        · skip
                          refine goes_ Try.func45 (by kernel_rfl) rfl #[.agg #[.int .i64 t272, .int .i64 t273], .agg #[.int .i64 t281, .int .i64 t282]] (by rfl) rfl rfl (by (try simp only [List.map_toArray, List.map_cons, List.map_nil]); first | done | rfl | (simp only [List.length_drop, List.length_take]; rfl)) ?_
                          with_reducible refine (impl_TwoMul.calls t272 t273 t281 t282 t283 t284 _ A7.out).mono ?_
                          rintro e w93 ⟨rfl, hb⟩
                          refine ⟨_, rfl, ?_⟩
                          have n0_ := Aside0.mk (blk_below (g := gb276) (o := .cells #[.int .i64 t272, .int .i64 t273] 50 (0, 0)) (by exact BK276.out) hb)
                          have n1_ := Aside0.mk (blk_below (g := gb277) (o := .cells #[.int .i64 t274, .int .i64 t275] 50 (0, 0)) (by exact BK277.out) hb)
                          have n2_ := Aside0.mk (blk_below (g := gb280) (o := .cells #[.int .i64 t278, .int .i64 t279] 50 (0, 0)) (by exact BK280.out) hb)
                          have n3_ := Aside0.mk (below_step (by repeat (first | (with_reducible first | exact HB.out | apply below_alloc | apply pw_below_drewN | apply below_drew1 | refine below_set ?_ GE276.out | refine below_set ?_ GE277.out | refine below_set ?_ GE280.out) | exact HB.out)) hb)
                          clear BK276
                          clear BK277
                          clear BK280
                          clear HB
                          have BK276 := n0_
                          have BK277 := n1_
                          have BK280 := n2_
                          have HB := n3_
                          clear n0_ n1_ n2_ n3_
                          (try clear hb)
                          (try clear hb2)
                          (try clear hk)
                          (try clear hi)
                          refine hK.out _ _ ⟨(blk_cell BK276.out 0).trans rfl, (blk_cell BK276.out 1).trans rfl⟩ (fun hHeld => ?_)
                          clear hK K
                          refine norm_ (a' := ?_) ?_ ?_
                          rotate_left
                          · show Act.put _ (some 25) _ = _
                            simp only [Act.put, List.setIfInBounds_toArray, List.set_cons_zero, List.set_cons_succ, i64_w, i32_w]
                            rfl
                          refine one_ (i := 4) (N := some 6) #[true, true, true, true, true, false] rfl rfl (by kernel_rfl) (by decide) (fun K hK => ?_)
                          refine box_step ?hg (N := 6) ?hd (cs := #[.int .i64 0, .int .i64 0]) (t := 50) ?hr ?_; (case hd => rfl); (case hg => rfl); (case hr => first | (go_simp; done) | (go_simp; rfl))
                          intro gb285 hg w94 hbox hb
                          have n0_ := Aside0.mk (blk_below (g := gb276) (o := .cells #[.int .i64 t272, .int .i64 t273] 50 (0, 0)) (by exact BK276.out) hb)
                          have n1_ := Aside0.mk (blk_below (g := gb277) (o := .cells #[.int .i64 t274, .int .i64 t275] 50 (0, 0)) (by exact BK277.out) hb)
                          have n2_ := Aside0.mk (blk_below (g := gb280) (o := .cells #[.int .i64 t278, .int .i64 t279] 50 (0, 0)) (by exact BK280.out) hb)
                          have n3_ := Aside0.mk (below_step (by repeat (first | (with_reducible first | exact HB.out | apply below_alloc | apply pw_below_drewN | apply below_drew1 | refine below_set ?_ GE276.out | refine below_set ?_ GE277.out | refine below_set ?_ GE280.out) | exact HB.out)) hb)
                          have n4_ := Aside0.mk (hbox)
                          have n5_ := Aside0.mk ((by rw [hg]; exact (below_size (by repeat (first | (with_reducible first | exact HB.out | apply below_alloc | apply pw_below_drewN | apply below_drew1 | refine below_set ?_ GE276.out | refine below_set ?_ GE277.out | refine below_set ?_ GE280.out) | exact HB.out))) : w.heap.size ≤ gb285))
                          have n6_ := Aside0.mk ((by rw [hg]; exact (below_size (by repeat (first | (with_reducible first | exact HB.out | apply below_alloc | apply pw_below_drewN | apply below_drew1 | refine below_set ?_ GE276.out | refine below_set ?_ GE277.out | refine below_set ?_ GE280.out) | exact HB.out))) : w.heap.size ≤ gb285))
                          have n7_ := Aside0.mk ((by rw [hg]; exact Nat.ne_of_lt (blk_lt (g := gb276) (o := .cells #[.int .i64 t272, .int .i64 t273] 50 (0, 0)) (by exact BK276.out)) : gb276 ≠ gb285))
                          have n8_ := Aside0.mk ((by rw [hg]; exact Nat.ne_of_gt (blk_lt (g := gb276) (o := .cells #[.int .i64 t272, .int .i64 t273] 50 (0, 0)) (by exact BK276.out)) : gb285 ≠ gb276))
                          have n9_ := Aside0.mk ((by rw [hg]; exact Nat.ne_of_lt (blk_lt (g := gb277) (o := .cells #[.int .i64 t274, .int .i64 t275] 50 (0, 0)) (by exact BK277.out)) : gb277 ≠ gb285))
                          have n10_ := Aside0.mk ((by rw [hg]; exact Nat.ne_of_gt (blk_lt (g := gb277) (o := .cells #[.int .i64 t274, .int .i64 t275] 50 (0, 0)) (by exact BK277.out)) : gb285 ≠ gb277))
                          have n11_ := Aside0.mk ((by rw [hg]; exact Nat.ne_of_lt (blk_lt (g := gb280) (o := .cells #[.int .i64 t278, .int .i64 t279] 50 (0, 0)) (by exact BK280.out)) : gb280 ≠ gb285))
                          have n12_ := Aside0.mk ((by rw [hg]; exact Nat.ne_of_gt (blk_lt (g := gb280) (o := .cells #[.int .i64 t278, .int .i64 t279] 50 (0, 0)) (by exact BK280.out)) : gb285 ≠ gb280))
                          clear BK276
                          clear BK277
                          clear BK280
                          clear HB
                          have BK276 := n0_
                          have BK277 := n1_
                          have BK280 := n2_
                          have HB := n3_
                          have BK285 := n4_
                          have GW285 := n5_
                          have GE285 := n6_
                          have NB276_285 := n7_
                          have NB285_276 := n8_
                          have NB277_285 := n9_
                          have NB285_277 := n10_
                          have NB280_285 := n11_
                          have NB285_280 := n12_
                          clear n0_ n1_ n2_ n3_ n4_ n5_ n6_ n7_ n8_ n9_ n10_ n11_ n12_
                          clear hb hbox hg
                          refine hK.out _ _ ⟨(blk_cell BK276.out 0).trans rfl, (blk_cell BK276.out 1).trans rfl⟩ (fun hHeld => ?_)
                          clear hK K
                          refine norm_ (a' := ?_) ?_ ?_
                          rotate_left
                          · show Act.put _ (some 6) _ = _
                            simp only [Act.put, List.setIfInBounds_toArray, List.set_cons_zero, List.set_cons_succ, i64_w, i32_w]
                            rfl
                          exact norm_ (by simp only [putAll, Act.put, List.setIfInBounds_toArray, List.set_cons_zero, List.set_cons_succ]) (hCont (gb285) _ ⟨hHeld, (by exact BK276.out), (by exact BK277.out), (by exact BK280.out), (by exact BK285.out), GW285.out, GE285.out, NB276_285.out, NB285_276.out, NB277_285.out, NB285_277.out, NB280_285.out, NB285_280.out, (by repeat (first | (with_reducible first | exact HB.out | apply below_alloc | apply pw_below_drewN | apply below_drew1 | refine below_set ?_ GE276.out | refine below_set ?_ GE277.out | refine below_set ?_ GE280.out | refine below_set ?_ GE285.out) | exact HB.out))⟩)
                        · skip
                          refine box_step ?hg (N := 6) ?hd (cs := #[.int .i64 0, .int .i64 0]) (t := 50) ?hr ?_; (case hd => rfl); (case hg => rfl); (case hr => first | (go_simp; done) | (go_simp; rfl))
                          intro gb285 hg w93 hbox hb
                          have n0_ := Aside0.mk (blk_below (g := gb276) (o := .cells #[.int .i64 t272, .int .i64 t273] 50 (0, 0)) (by exact BK276.out) hb)
                          have n1_ := Aside0.mk (blk_below (g := gb277) (o := .cells #[.int .i64 t274, .int .i64 t275] 50 (0, 0)) (by exact BK277.out) hb)
                          have n2_ := Aside0.mk (blk_below (g := gb280) (o := .cells #[.int .i64 t278, .int .i64 t279] 50 (0, 0)) (by exact BK280.out) hb)
                          have n3_ := Aside0.mk (below_step (by repeat (first | (with_reducible first | exact HB.out | apply below_alloc | apply pw_below_drewN | apply below_drew1 | refine below_set ?_ GE276.out | refine below_set ?_ GE277.out | refine below_set ?_ GE280.out) | exact HB.out)) hb)
                          have n4_ := Aside0.mk (hbox)
                          have n5_ := Aside0.mk ((by rw [hg]; exact (below_size (by repeat (first | (with_reducible first | exact HB.out | apply below_alloc | apply pw_below_drewN | apply below_drew1 | refine below_set ?_ GE276.out | refine below_set ?_ GE277.out | refine below_set ?_ GE280.out) | exact HB.out))) : w.heap.size ≤ gb285))
                          have n6_ := Aside0.mk ((by rw [hg]; exact (below_size (by repeat (first | (with_reducible first | exact HB.out | apply below_alloc | apply pw_below_drewN | apply below_drew1 | refine below_set ?_ GE276.out | refine below_set ?_ GE277.out | refine below_set ?_ GE280.out) | exact HB.out))) : w.heap.size ≤ gb285))
                          have n7_ := Aside0.mk ((by rw [hg]; exact Nat.ne_of_lt (blk_lt (g := gb276) (o := .cells #[.int .i64 t272, .int .i64 t273] 50 (0, 0)) (by exact BK276.out)) : gb276 ≠ gb285))
                          have n8_ := Aside0.mk ((by rw [hg]; exact Nat.ne_of_gt (blk_lt (g := gb276) (o := .cells #[.int .i64 t272, .int .i64 t273] 50 (0, 0)) (by exact BK276.out)) : gb285 ≠ gb276))
                          have n9_ := Aside0.mk ((by rw [hg]; exact Nat.ne_of_lt (blk_lt (g := gb277) (o := .cells #[.int .i64 t274, .int .i64 t275] 50 (0, 0)) (by exact BK277.out)) : gb277 ≠ gb285))
                          have n10_ := Aside0.mk ((by rw [hg]; exact Nat.ne_of_gt (blk_lt (g := gb277) (o := .cells #[.int .i64 t274, .int .i64 t275] 50 (0, 0)) (by exact BK277.out)) : gb285 ≠ gb277))
                          have n11_ := Aside0.mk ((by rw [hg]; exact Nat.ne_of_lt (blk_lt (g := gb280) (o := .cells #[.int .i64 t278, .int .i64 t279] 50 (0, 0)) (by exact BK280.out)) : gb280 ≠ gb285))
                          have n12_ := Aside0.mk ((by rw [hg]; exact Nat.ne_of_gt (blk_lt (g := gb280) (o := .cells #[.int .i64 t278, .int .i64 t279] 50 (0, 0)) (by exact BK280.out)) : gb285 ≠ gb280))
                          clear BK276
                          clear BK277
                          clear BK280
                          clear HB
                          have BK276 := n0_
                          have BK277 := n1_
                          have BK280 := n2_
                          have HB := n3_
                          have BK285 := n4_
                          have GW285 := n5_
                          have GE285 := n6_
                          have NB276_285 := n7_
                          have NB285_276 := n8_
                          have NB277_285 := n9_
                          have NB285_277 := n10_
                          have NB280_285 := n11_
                          have NB285_280 := n12_
                          clear n0_ n1_ n2_ n3_ n4_ n5_ n6_ n7_ n8_ n9_ n10_ n11_ n12_
                          clear hb hbox hg
                          refine hK.out _ _ ⟨(blk_cell BK276.out 0).trans rfl, (blk_cell BK276.out 1).trans rfl⟩ (fun hHeld => ?_)
                          clear hK K
                          refine norm_ (a' := ?_) ?_ ?_
                          rotate_left
                          · show Act.put _ (some 6) _ = _
                            simp only [Act.put, List.setIfInBounds_toArray, List.set_cons_zero, List.set_cons_succ, i64_w, i32_w]
                            rfl
                          refine one_ (i := 3) (N := some 25) #[true, true, true, true, true, false] rfl rfl (by kernel_rfl) (by decide) (fun K hK => ?_)
                          refine goes_ Try.func45 (by kernel_rfl) rfl #[.agg #[.int .i64 t272, .int .i64 t273], .agg #[.int .i64 t281, .int .i64 t282]] (by rfl) rfl rfl (by (try simp only [List.map_toArray, List.map_cons, List.map_nil]); first | done | rfl | (simp only [List.length_drop, List.length_take]; rfl)) ?_
                          with_reducible refine (impl_TwoMul.calls t272 t273 t281 t282 t283 t284 _ A7.out).mono ?_
                          rintro e w94 ⟨rfl, hb⟩
                          refine ⟨_, rfl, ?_⟩
                          have n0_ := Aside0.mk (blk_below (g := gb276) (o := .cells #[.int .i64 t272, .int .i64 t273] 50 (0, 0)) (by exact BK276.out) hb)
                          have n1_ := Aside0.mk (blk_below (g := gb277) (o := .cells #[.int .i64 t274, .int .i64 t275] 50 (0, 0)) (by exact BK277.out) hb)
                          have n2_ := Aside0.mk (blk_below (g := gb280) (o := .cells #[.int .i64 t278, .int .i64 t279] 50 (0, 0)) (by exact BK280.out) hb)
                          have n3_ := Aside0.mk (blk_below (g := gb285) (o := .cells #[.int .i64 0, .int .i64 0] 50 (0, 0)) (by exact BK285.out) hb)
                          have n4_ := Aside0.mk (below_step (by repeat (first | (with_reducible first | exact HB.out | apply below_alloc | apply pw_below_drewN | apply below_drew1 | refine below_set ?_ GE276.out | refine below_set ?_ GE277.out | refine below_set ?_ GE280.out | refine below_set ?_ GE285.out) | exact HB.out)) hb)
                          clear BK276
                          clear BK277
                          clear BK280
                          clear BK285
                          clear HB
                          have BK276 := n0_
                          have BK277 := n1_
                          have BK280 := n2_
                          have BK285 := n3_
                          have HB := n4_
                          clear n0_ n1_ n2_ n3_ n4_
                          (try clear hb)
                          (try clear hb2)
                          (try clear hk)
                          (try clear hi)
                          refine hK.out _ _ ⟨(blk_cell BK276.out 0).trans rfl, (blk_cell BK276.out 1).trans rfl⟩ (fun hHeld => ?_)
                          clear hK K
                          refine norm_ (a' := ?_) ?_ ?_
                          rotate_left
                          · show Act.put _ (some 25) _ = _
                            simp only [Act.put, List.setIfInBounds_toArray, List.set_cons_zero, List.set_cons_succ, i64_w, i32_w]
                            rfl
                          exact norm_ (by simp only [putAll, Act.put, List.setIfInBounds_toArray, List.set_cons_zero, List.set_cons_succ]) (hCont (gb285) _ ⟨hHeld, (by exact BK276.out), (by exact BK277.out), (by exact BK280.out), (by exact BK285.out), GW285.out, GE285.out, NB276_285.out, NB285_276.out, NB277_285.out, NB285_277.out, NB280_285.out, NB285_280.out, (by repeat (first | (with_reducible first | exact HB.out | apply below_alloc | apply pw_below_drewN | apply below_drew1 | refine below_set ?_ GE276.out | refine below_set ?_ GE277.out | refine below_set ?_ GE280.out | refine below_set ?_ GE285.out) | exact HB.out))⟩)
                      · skip
                        refine box_step ?hg (N := 6) ?hd (cs := #[.int .i64 0, .int .i64 0]) (t := 50) ?hr ?_; (case hd => rfl); (case hg => rfl); (case hr => first | (go_simp; done) | (go_simp; rfl))
                        intro gb285 hg w92 hbox hb
                        have n0_ := Aside0.mk (blk_below (g := gb276) (o := .cells #[.int .i64 t272, .int .i64 t273] 50 (0, 0)) (by exact BK276.out) hb)
                        have n1_ := Aside0.mk (blk_below (g := gb277) (o := .cells #[.int .i64 t274, .int .i64 t275] 50 (0, 0)) (by exact BK277.out) hb)
                        have n2_ := Aside0.mk (blk_below (g := gb280) (o := .cells #[.int .i64 t278, .int .i64 t279] 50 (0, 0)) (by exact BK280.out) hb)
                        have n3_ := Aside0.mk (below_step (by repeat (first | (with_reducible first | exact HB.out | apply below_alloc | apply pw_below_drewN | apply below_drew1 | refine below_set ?_ GE276.out | refine below_set ?_ GE277.out | refine below_set ?_ GE280.out) | exact HB.out)) hb)
                        have n4_ := Aside0.mk (hbox)
                        have n5_ := Aside0.mk ((by rw [hg]; exact (below_size (by repeat (first | (with_reducible first | exact HB.out | apply below_alloc | apply pw_below_drewN | apply below_drew1 | refine below_set ?_ GE276.out | refine below_set ?_ GE277.out | refine below_set ?_ GE280.out) | exact HB.out))) : w.heap.size ≤ gb285))
                        have n6_ := Aside0.mk ((by rw [hg]; exact (below_size (by repeat (first | (with_reducible first | exact HB.out | apply below_alloc | apply pw_below_drewN | apply below_drew1 | refine below_set ?_ GE276.out | refine below_set ?_ GE277.out | refine below_set ?_ GE280.out) | exact HB.out))) : w.heap.size ≤ gb285))
                        have n7_ := Aside0.mk ((by rw [hg]; exact Nat.ne_of_lt (blk_lt (g := gb276) (o := .cells #[.int .i64 t272, .int .i64 t273] 50 (0, 0)) (by exact BK276.out)) : gb276 ≠ gb285))
                        have n8_ := Aside0.mk ((by rw [hg]; exact Nat.ne_of_gt (blk_lt (g := gb276) (o := .cells #[.int .i64 t272, .int .i64 t273] 50 (0, 0)) (by exact BK276.out)) : gb285 ≠ gb276))
                        have n9_ := Aside0.mk ((by rw [hg]; exact Nat.ne_of_lt (blk_lt (g := gb277) (o := .cells #[.int .i64 t274, .int .i64 t275] 50 (0, 0)) (by exact BK277.out)) : gb277 ≠ gb285))
                        have n10_ := Aside0.mk ((by rw [hg]; exact Nat.ne_of_gt (blk_lt (g := gb277) (o := .cells #[.int .i64 t274, .int .i64 t275] 50 (0, 0)) (by exact BK277.out)) : gb285 ≠ gb277))
                        have n11_ := Aside0.mk ((by rw [hg]; exact Nat.ne_of_lt (blk_lt (g := gb280) (o := .cells #[.int .i64 t278, .int .i64 t279] 50 (0, 0)) (by exact BK280.out)) : gb280 ≠ gb285))
                        have n12_ := Aside0.mk ((by rw [hg]; exact Nat.ne_of_gt (blk_lt (g := gb280) (o := .cells #[.int .i64 t278, .int .i64 t279] 50 (0, 0)) (by exact BK280.out)) : gb285 ≠ gb280))
                        clear BK276
                        clear BK277
                        clear BK280
                        clear HB
                        have BK276 := n0_
                        have BK277 := n1_
                        have BK280 := n2_
                        have HB := n3_
                        have BK285 := n4_
                        have GW285 := n5_
                        have GE285 := n6_
                        have NB276_285 := n7_
                        have NB285_276 := n8_
                        have NB277_285 := n9_
                        have NB285_277 := n10_
                        have NB280_285 := n11_
                        have NB285_280 := n12_
                        clear n0_ n1_ n2_ n3_ n4_ n5_ n6_ n7_ n8_ n9_ n10_ n11_ n12_
                        clear hb hbox hg
                        refine hK.out _ _ ⟨(blk_cell BK276.out 0).trans rfl, (blk_cell BK276.out 1).trans rfl⟩ (fun hHeld => ?_)
                        clear hK K
                        refine norm_ (a' := ?_) ?_ ?_
                        rotate_left
                        · show Act.put _ (some 6) _ = _
                          simp only [Act.put, List.setIfInBounds_toArray, List.set_cons_zero, List.set_cons_succ, i64_w, i32_w]
                          rfl
                        refine one_ (i := 2) (N := some 24) #[true, true, true, false, true, false] rfl rfl (by kernel_rfl) (by decide) (fun K hK => ?_)
                        refine goes_ Try.func46 (by kernel_rfl) rfl #[.agg #[.int .i64 t272, .int .i64 t273]] (by rfl) rfl rfl (by (try simp only [List.map_toArray, List.map_cons, List.map_nil]); first | done | rfl | (simp only [List.length_drop, List.length_take]; rfl)) ?_
                        with_reducible refine (impl_TwoTurn.calls t272 t273 t281 t282 _ A6.out).mono ?_
                        rintro e w93 ⟨rfl, hb⟩
                        refine ⟨_, rfl, ?_⟩
                        have n0_ := Aside0.mk (blk_below (g := gb276) (o := .cells #[.int .i64 t272, .int .i64 t273] 50 (0, 0)) (by exact BK276.out) hb)
                        have n1_ := Aside0.mk (blk_below (g := gb277) (o := .cells #[.int .i64 t274, .int .i64 t275] 50 (0, 0)) (by exact BK277.out) hb)
                        have n2_ := Aside0.mk (blk_below (g := gb280) (o := .cells #[.int .i64 t278, .int .i64 t279] 50 (0, 0)) (by exact BK280.out) hb)
                        have n3_ := Aside0.mk (blk_below (g := gb285) (o := .cells #[.int .i64 0, .int .i64 0] 50 (0, 0)) (by exact BK285.out) hb)
                        have n4_ := Aside0.mk (below_step (by repeat (first | (with_reducible first | exact HB.out | apply below_alloc | apply pw_below_drewN | apply below_drew1 | refine below_set ?_ GE276.out | refine below_set ?_ GE277.out | refine below_set ?_ GE280.out | refine below_set ?_ GE285.out) | exact HB.out)) hb)
                        clear BK276
                        clear BK277
                        clear BK280
                        clear BK285
                        clear HB
                        have BK276 := n0_
                        have BK277 := n1_
                        have BK280 := n2_
                        have BK285 := n3_
                        have HB := n4_
                        clear n0_ n1_ n2_ n3_ n4_
                        (try clear hb)
                        (try clear hb2)
                        (try clear hk)
                        (try clear hi)
                        refine hK.out _ _ ⟨(blk_cell BK276.out 0).trans rfl, (blk_cell BK276.out 1).trans rfl⟩ (fun hHeld => ?_)
                        clear hK K
                        refine norm_ (a' := ?_) ?_ ?_
                        rotate_left
                        · show Act.put _ (some 24) _ = _
                          simp only [Act.put, List.setIfInBounds_toArray, List.set_cons_zero, List.set_cons_succ, i64_w, i32_w]
                          rfl
                        refine one_ (i := 3) (N := some 25) #[true, true, true, true, true, false] rfl rfl (by kernel_rfl) (by decide) (fun K hK => ?_)
                        refine goes_ Try.func45 (by kernel_rfl) rfl #[.agg #[.int .i64 t272, .int .i64 t273], .agg #[.int .i64 t281, .int .i64 t282]] (by rfl) rfl rfl (by (try simp only [List.map_toArray, List.map_cons, List.map_nil]); first | done | rfl | (simp only [List.length_drop, List.length_take]; rfl)) ?_
                        with_reducible refine (impl_TwoMul.calls t272 t273 t281 t282 t283 t284 _ A7.out).mono ?_
                        rintro e w94 ⟨rfl, hb⟩
                        refine ⟨_, rfl, ?_⟩
                        have n0_ := Aside0.mk (blk_below (g := gb276) (o := .cells #[.int .i64 t272, .int .i64 t273] 50 (0, 0)) (by exact BK276.out) hb)
                        have n1_ := Aside0.mk (blk_below (g := gb277) (o := .cells #[.int .i64 t274, .int .i64 t275] 50 (0, 0)) (by exact BK277.out) hb)
                        have n2_ := Aside0.mk (blk_below (g := gb280) (o := .cells #[.int .i64 t278, .int .i64 t279] 50 (0, 0)) (by exact BK280.out) hb)
                        have n3_ := Aside0.mk (blk_below (g := gb285) (o := .cells #[.int .i64 0, .int .i64 0] 50 (0, 0)) (by exact BK285.out) hb)
                        have n4_ := Aside0.mk (below_step (by repeat (first | (with_reducible first | exact HB.out | apply below_alloc | apply pw_below_drewN | apply below_drew1 | refine below_set ?_ GE276.out | refine below_set ?_ GE277.out | refine below_set ?_ GE280.out | refine below_set ?_ GE285.out) | exact HB.out)) hb)
                        clear BK276
                        clear BK277
                        clear BK280
                        clear BK285
                        clear HB
                        have BK276 := n0_
                        have BK277 := n1_
                        have BK280 := n2_
                        have BK285 := n3_
                        have HB := n4_
                        clear n0_ n1_ n2_ n3_ n4_
                        (try clear hb)
                        (try clear hb2)
                        (try clear hk)
                        (try clear hi)
                        refine hK.out _ _ ⟨(blk_cell BK276.out 0).trans rfl, (blk_cell BK276.out 1).trans rfl⟩ (fun hHeld => ?_)
                        clear hK K
                        refine norm_ (a' := ?_) ?_ ?_
                        rotate_left
                        · show Act.put _ (some 25) _ = _
                          simp only [Act.put, List.setIfInBounds_toArray, List.set_cons_zero, List.set_cons_succ, i64_w, i32_w]
                          rfl
                        exact norm_ (by simp only [putAll, Act.put, List.setIfInBounds_toArray, List.set_cons_zero, List.set_cons_succ]) (hCont (gb285) _ ⟨hHeld, (by exact BK276.out), (by exact BK277.out), (by exact BK280.out), (by exact BK285.out), GW285.out, GE285.out, NB276_285.out, NB285_276.out, NB277_285.out, NB285_277.out, NB280_285.out, NB285_280.out, (by repeat (first | (with_reducible first | exact HB.out | apply below_alloc | apply pw_below_drewN | apply below_drew1 | refine below_set ?_ GE276.out | refine below_set ?_ GE277.out | refine below_set ?_ GE280.out | refine below_set ?_ GE285.out) | exact HB.out))⟩)
                    rintro gb285 w95 ⟨hS_, h0_, h1_, h2_, h3_, h4_, h5_, h6_, h7_, h8_, h9_, h10_, h11_, h12_⟩
                    have n0_ : Aside0 (w95.heap[gb276]? = some (.cells #[.int .i64 t272, .int .i64 t273] 50 (0, 0))) := ⟨h0_⟩
                    have n1_ : Aside0 (w95.heap[gb277]? = some (.cells #[.int .i64 t274, .int .i64 t275] 50 (0, 0))) := ⟨h1_⟩
                    have n2_ : Aside0 (w95.heap[gb280]? = some (.cells #[.int .i64 t278, .int .i64 t279] 50 (0, 0))) := ⟨h2_⟩
                    have n3_ : Aside0 (w95.heap[gb285]? = some (.cells #[.int .i64 0, .int .i64 0] 50 (0, 0))) := ⟨h3_⟩
                    have n4_ : Aside0 (w.heap.size ≤ gb285) := ⟨h4_⟩
                    have n5_ : Aside0 (w.heap.size ≤ gb285) := ⟨h5_⟩
                    have n6_ : Aside0 (gb276 ≠ gb285) := ⟨h6_⟩
                    have n7_ : Aside0 (gb285 ≠ gb276) := ⟨h7_⟩
                    have n8_ : Aside0 (gb277 ≠ gb285) := ⟨h8_⟩
                    have n9_ : Aside0 (gb285 ≠ gb277) := ⟨h9_⟩
                    have n10_ : Aside0 (gb280 ≠ gb285) := ⟨h10_⟩
                    have n11_ : Aside0 (gb285 ≠ gb280) := ⟨h11_⟩
                    have n12_ : Aside0 (Below w.heap.size w w95) := ⟨h12_⟩
                    clear BK276
                    clear BK277
                    clear BK280
                    clear HB
                    clear h0_ h1_ h2_ h3_ h4_ h5_ h6_ h7_ h8_ h9_ h10_ h11_ h12_
                    have BK276 := n0_
                    have BK277 := n1_
                    have BK280 := n2_
                    have BK285 := n3_
                    have GW285 := n4_
                    have GE285 := n5_
                    have NB276_285 := n6_
                    have NB285_276 := n7_
                    have NB277_285 := n8_
                    have NB285_277 := n9_
                    have NB280_285 := n10_
                    have NB285_280 := n11_
                    have HB := n12_
                    clear n0_ n1_ n2_ n3_ n4_ n5_ n6_ n7_ n8_ n9_ n10_ n11_ n12_
                    have hHeld : w95.cell? ⟨gb276, 0, none⟩ = some (.int .i64 t272) ∧ w95.cell? ⟨gb276, 1, none⟩ = some (.int .i64 t273) := hS_
                    refine norm_ (a' := ?_) ?_ ?_
                    rotate_left
                    · simp only [putAll, Act.put, List.setIfInBounds_toArray, List.set_cons_zero, List.set_cons_succ]
                      rfl
                    refine one_ (i := 5) (N := none) #[true, true, true, true, true, true] rfl rfl (by kernel_rfl) (by decide) (fun K hK => ?_)
                    have hs96 : w95.cell? ⟨gb285, 0, none⟩ = some (.int .i64 0) := (blk_cell BK285.out 0).trans rfl
                    have hfs96 := blk_frozen BK285.out 0
                    have hns96_0 := NB276_285.out
                    have hns96_1 := NB277_285.out
                    have hns96_2 := NB280_285.out
                    have hms96_0 := NB285_276.out
                    have hms96_1 := NB285_277.out
                    have hms96_2 := NB285_280.out
                    have hs97 : w95.cell? ⟨gb285, 1, none⟩ = some (.int .i64 0) := (blk_cell BK285.out 1).trans rfl
                    have hfs97 := blk_frozen BK285.out 1
                    have hns97_0 := NB276_285.out
                    have hns97_1 := NB277_285.out
                    have hns97_2 := NB280_285.out
                    have hms97_0 := NB285_276.out
                    have hms97_1 := NB285_277.out
                    have hms97_2 := NB285_280.out
                    refine skip_ (w1 := ?_) (by rfl) rfl ?_ ?_
                    rotate_left
                    · go_simp
                      rfl
                    refine hK.out _ _ ⟨((cell_far (p := ⟨gb285, _, none⟩) NB276_285.out _).trans (((cell_far (p := ⟨gb285, _, none⟩) NB276_285.out _).trans (hHeld.1)))), ((cell_far (p := ⟨gb285, _, none⟩) NB276_285.out _).trans (((cell_far (p := ⟨gb285, _, none⟩) NB276_285.out _).trans (hHeld.2))))⟩ (fun hHeld => ?_)
                    clear hK K
                    refine done_ (by kernel_rfl) ?_
                    try go_wp2
                    have n0_ : Aside0 (((w95.setCell ⟨gb285, 0, none⟩ (.int .i64 t283)).setCell ⟨gb285, 1, none⟩ (.int .i64 t284)).heap[gb276]? = some (.cells #[.int .i64 t272, .int .i64 t273] 50 (0, 0))) := ⟨by (with_reducible repeat (first | refine blk_drewN ?_ _ | refine blk_drew ?_ | refine blk_alloc ?_ _)); refine blk_far ?_ NB276_285.out _; (with_reducible repeat (first | refine blk_drewN ?_ _ | refine blk_drew ?_ | refine blk_alloc ?_ _)); refine blk_far ?_ NB276_285.out _; exact BK276.out⟩
                    have n1_ : Aside0 (((w95.setCell ⟨gb285, 0, none⟩ (.int .i64 t283)).setCell ⟨gb285, 1, none⟩ (.int .i64 t284)).heap[gb277]? = some (.cells #[.int .i64 t274, .int .i64 t275] 50 (0, 0))) := ⟨by (with_reducible repeat (first | refine blk_drewN ?_ _ | refine blk_drew ?_ | refine blk_alloc ?_ _)); refine blk_far ?_ NB277_285.out _; (with_reducible repeat (first | refine blk_drewN ?_ _ | refine blk_drew ?_ | refine blk_alloc ?_ _)); refine blk_far ?_ NB277_285.out _; exact BK277.out⟩
                    have n2_ : Aside0 (((w95.setCell ⟨gb285, 0, none⟩ (.int .i64 t283)).setCell ⟨gb285, 1, none⟩ (.int .i64 t284)).heap[gb280]? = some (.cells #[.int .i64 t278, .int .i64 t279] 50 (0, 0))) := ⟨by (with_reducible repeat (first | refine blk_drewN ?_ _ | refine blk_drew ?_ | refine blk_alloc ?_ _)); refine blk_far ?_ NB280_285.out _; (with_reducible repeat (first | refine blk_drewN ?_ _ | refine blk_drew ?_ | refine blk_alloc ?_ _)); refine blk_far ?_ NB280_285.out _; exact BK280.out⟩
                    have n3_ : Aside0 (((w95.setCell ⟨gb285, 0, none⟩ (.int .i64 t283)).setCell ⟨gb285, 1, none⟩ (.int .i64 t284)).heap[gb285]? = some (.cells #[.int .i64 t283, .int .i64 t284] 50 (0, 0))) := ⟨by (with_reducible repeat (first | refine blk_drewN ?_ _ | refine blk_drew ?_ | refine blk_alloc ?_ _)); refine blk_put (cs := #[.int .i64 t283, .int .i64 0]) ?_ 1 _ rfl; (with_reducible repeat (first | refine blk_drewN ?_ _ | refine blk_drew ?_ | refine blk_alloc ?_ _)); refine blk_put (cs := #[.int .i64 0, .int .i64 0]) ?_ 0 _ rfl; exact BK285.out⟩
                    have n4_ : Aside0 (Below w.heap.size w ((w95.setCell ⟨gb285, 0, none⟩ (.int .i64 t283)).setCell ⟨gb285, 1, none⟩ (.int .i64 t284))) := ⟨by repeat (first | (with_reducible first | exact HB.out | apply below_alloc | apply pw_below_drewN | apply below_drew1 | refine below_set ?_ GE276.out | refine below_set ?_ GE277.out | refine below_set ?_ GE280.out | refine below_set ?_ GE285.out) | exact HB.out)⟩
                    (try clear BK276)
                    (try clear BK277)
                    (try clear BK280)
                    (try clear BK285)
                    (try clear HB)
                    generalize ((w95.setCell ⟨gb285, 0, none⟩ (.int .i64 t283)).setCell ⟨gb285, 1, none⟩ (.int .i64 t284)) = w98 at n0_ n1_ n2_ n3_ n4_ ⊢
                    have BK276 := n0_
                    have BK277 := n1_
                    have BK280 := n2_
                    have BK285 := n3_
                    have HB := n4_
                    clear n0_ n1_ n2_ n3_ n4_
                    have n0_ := Aside0.mk (blk_drew BK276.out)
                    have n1_ := Aside0.mk (blk_drew BK277.out)
                    have n2_ := Aside0.mk (blk_drew BK280.out)
                    have n3_ := Aside0.mk (blk_drew BK285.out)
                    have n4_ := Aside0.mk (below_drew1 HB.out)
                    clear BK276
                    clear BK277
                    clear BK280
                    clear BK285
                    clear HB
                    have BK276 := n0_
                    have BK277 := n1_
                    have BK280 := n2_
                    have BK285 := n3_
                    have HB := n4_
                    clear n0_ n1_ n2_ n3_ n4_
                    refine start_ (n := 6) (S := fun w' => w'.cell? ⟨gb276, 0, none⟩ = some (.int .i64 t272) ∧ w'.cell? ⟨gb276, 1, none⟩ = some (.int .i64 t273)) (ds := []) #[false, false, false, false, false, false] (by kernel_rfl) rfl rfl ⟨(blk_cell BK276.out 0).trans rfl, (blk_cell BK276.out 1).trans rfl⟩ (fun hHeld => ?_)
                    generalize w98.drew = w99 at BK276 BK277 BK280 BK285 HB hHeld ⊢
                    refine take_ (i := 0) (N := some 26) (v := ?_) (a' := ?_) #[true, false, false, false, false, false] rfl rfl (by kernel_rfl) (fun _ _ _ h => h) (Or.inl ⟨by rfl, ?_⟩) hHeld ?_ ?_
                    rotate_left
                    · rintro w' ⟨s0, s1⟩
                      go_simp
                      with_reducible rfl
                    rotate_left
                    · simp only [Act.put, List.setIfInBounds_toArray, List.set_cons_zero, List.set_cons_succ, i64_w, i32_w]
                      rfl
                    refine take_ (i := 1) (N := some 27) (v := ?_) (a' := ?_) #[true, true, false, false, false, false] rfl rfl (by kernel_rfl) (fun _ _ _ h => h) (Or.inl ⟨by rfl, ?_⟩) hHeld ?_ ?_
                    rotate_left
                    · rintro w' ⟨s0, s1⟩
                      go_simp
                      with_reducible rfl
                    rotate_left
                    · simp only [Act.put, List.setIfInBounds_toArray, List.set_cons_zero, List.set_cons_succ, i64_w, i32_w]
                      rfl
                    refine join_ (σ := Nat) 1 #[true, true, true, true, true, false] (fun s_ => [(28, .agg #[.int .i64 t286, .int .i64 t287]), (29, .agg #[.int .i64 t288, .int .i64 t289]), (7, .pointer (some ⟨s_, 0, none⟩))]) (fun s_ w' => (w'.cell? ⟨gb276, 0, none⟩ = some (.int .i64 t272) ∧ w'.cell? ⟨gb276, 1, none⟩ = some (.int .i64 t273)) ∧ (w'.heap[gb276]? = some (.cells #[.int .i64 t272, .int .i64 t273] 50 (0, 0))) ∧ (w'.heap[gb277]? = some (.cells #[.int .i64 t274, .int .i64 t275] 50 (0, 0))) ∧ (w'.heap[gb280]? = some (.cells #[.int .i64 t278, .int .i64 t279] 50 (0, 0))) ∧ (w'.heap[gb285]? = some (.cells #[.int .i64 t283, .int .i64 t284] 50 (0, 0))) ∧ (w'.heap[s_]? = some (.cells #[.int .i64 0, .int .i64 0] 50 (0, 0))) ∧ (w.heap.size ≤ s_) ∧ (w.heap.size ≤ s_) ∧ (gb276 ≠ s_) ∧ (s_ ≠ gb276) ∧ (gb277 ≠ s_) ∧ (s_ ≠ gb277) ∧ (gb280 ≠ s_) ∧ (s_ ≠ gb280) ∧ (gb285 ≠ s_) ∧ (s_ ≠ gb285) ∧ (Below w.heap.size w w')) ?_ ?_
                    rotate_left
                    · intro hCont
                      refine two_ (i := 2) (j := 4) (Ni := some 28) (Nj := some 7) #[true, true, true, false, false, false] #[true, true, false, false, true, false] rfl rfl rfl rfl (by kernel_rfl) (by decide) (by decide) (fun K hK => ?_) (fun K hK => ?_)
                      · skip
                        refine goes_ Try.func47 (by kernel_rfl) rfl #[.agg #[.int .i64 t272, .int .i64 t273]] (by rfl) rfl rfl (by (try simp only [List.map_toArray, List.map_cons, List.map_nil]); first | done | rfl | (simp only [List.length_drop, List.length_take]; rfl)) ?_
                        with_reducible refine (impl_TwoInv.calls k t272 t273 t286 t287 _ A8.out).mono ?_
                        rintro e w100 ⟨rfl, hb⟩
                        refine ⟨_, rfl, ?_⟩
                        have n0_ := Aside0.mk (blk_below (g := gb276) (o := .cells #[.int .i64 t272, .int .i64 t273] 50 (0, 0)) (by exact BK276.out) hb)
                        have n1_ := Aside0.mk (blk_below (g := gb277) (o := .cells #[.int .i64 t274, .int .i64 t275] 50 (0, 0)) (by exact BK277.out) hb)
                        have n2_ := Aside0.mk (blk_below (g := gb280) (o := .cells #[.int .i64 t278, .int .i64 t279] 50 (0, 0)) (by exact BK280.out) hb)
                        have n3_ := Aside0.mk (blk_below (g := gb285) (o := .cells #[.int .i64 t283, .int .i64 t284] 50 (0, 0)) (by exact BK285.out) hb)
                        have n4_ := Aside0.mk (below_step (by repeat (first | (with_reducible first | exact HB.out | apply below_alloc | apply pw_below_drewN | apply below_drew1 | refine below_set ?_ GE276.out | refine below_set ?_ GE277.out | refine below_set ?_ GE280.out | refine below_set ?_ GE285.out) | exact HB.out)) hb)
                        clear BK276
                        clear BK277
                        clear BK280
                        clear BK285
                        clear HB
                        have BK276 := n0_
                        have BK277 := n1_
                        have BK280 := n2_
                        have BK285 := n3_
                        have HB := n4_
                        clear n0_ n1_ n2_ n3_ n4_
                        (try clear hb)
                        (try clear hb2)
                        (try clear hk)
                        (try clear hi)
                        refine hK.out _ _ ⟨(blk_cell BK276.out 0).trans rfl, (blk_cell BK276.out 1).trans rfl⟩ (fun hHeld => ?_)
                        clear hK K
                        refine norm_ (a' := ?_) ?_ ?_
                        rotate_left
                        · show Act.put _ (some 28) _ = _
                          simp only [Act.put, List.setIfInBounds_toArray, List.set_cons_zero, List.set_cons_succ, i64_w, i32_w]
                          rfl
                        refine two_ (i := 3) (j := 4) (Ni := some 29) (Nj := some 7) #[true, true, true, true, false, false] #[true, true, true, false, true, false] rfl rfl rfl rfl (by kernel_rfl) (by decide) (by decide) (fun K hK => ?_) (fun K hK => ?_)
                        · skip
                          refine goes_ Try.func45 (by kernel_rfl) rfl #[.agg #[.int .i64 t272, .int .i64 t273], .agg #[.int .i64 t286, .int .i64 t287]] (by rfl) rfl rfl (by (try simp only [List.map_toArray, List.map_cons, List.map_nil]); first | done | rfl | (simp only [List.length_drop, List.length_take]; rfl)) ?_
                          with_reducible refine (impl_TwoMul.calls t272 t273 t286 t287 t288 t289 _ A9.out).mono ?_
                          rintro e w101 ⟨rfl, hb⟩
                          refine ⟨_, rfl, ?_⟩
                          have n0_ := Aside0.mk (blk_below (g := gb276) (o := .cells #[.int .i64 t272, .int .i64 t273] 50 (0, 0)) (by exact BK276.out) hb)
                          have n1_ := Aside0.mk (blk_below (g := gb277) (o := .cells #[.int .i64 t274, .int .i64 t275] 50 (0, 0)) (by exact BK277.out) hb)
                          have n2_ := Aside0.mk (blk_below (g := gb280) (o := .cells #[.int .i64 t278, .int .i64 t279] 50 (0, 0)) (by exact BK280.out) hb)
                          have n3_ := Aside0.mk (blk_below (g := gb285) (o := .cells #[.int .i64 t283, .int .i64 t284] 50 (0, 0)) (by exact BK285.out) hb)
                          have n4_ := Aside0.mk (below_step (by repeat (first | (with_reducible first | exact HB.out | apply below_alloc | apply pw_below_drewN | apply below_drew1 | refine below_set ?_ GE276.out | refine below_set ?_ GE277.out | refine below_set ?_ GE280.out | refine below_set ?_ GE285.out) | exact HB.out)) hb)
                          clear BK276
                          clear BK277
                          clear BK280
                          clear BK285
                          clear HB
                          have BK276 := n0_
                          have BK277 := n1_
                          have BK280 := n2_
                          have BK285 := n3_
                          have HB := n4_
                          clear n0_ n1_ n2_ n3_ n4_
                          (try clear hb)
                          (try clear hb2)
                          (try clear hk)
                          (try clear hi)
                          refine hK.out _ _ ⟨(blk_cell BK276.out 0).trans rfl, (blk_cell BK276.out 1).trans rfl⟩ (fun hHeld => ?_)
                          clear hK K
                          refine norm_ (a' := ?_) ?_ ?_
                          rotate_left
                          · show Act.put _ (some 29) _ = _
                            simp only [Act.put, List.setIfInBounds_toArray, List.set_cons_zero, List.set_cons_succ, i64_w, i32_w]
                            rfl
                          refine one_ (i := 4) (N := some 7) #[true, true, true, true, true, false] rfl rfl (by kernel_rfl) (by decide) (fun K hK => ?_)
                          refine box_step ?hg (N := 7) ?hd (cs := #[.int .i64 0, .int .i64 0]) (t := 50) ?hr ?_; (case hd => rfl); (case hg => rfl); (case hr => first | (go_simp; done) | (go_simp; rfl))
                          intro gb290 hg w102 hbox hb
                          have n0_ := Aside0.mk (blk_below (g := gb276) (o := .cells #[.int .i64 t272, .int .i64 t273] 50 (0, 0)) (by exact BK276.out) hb)
                          have n1_ := Aside0.mk (blk_below (g := gb277) (o := .cells #[.int .i64 t274, .int .i64 t275] 50 (0, 0)) (by exact BK277.out) hb)
                          have n2_ := Aside0.mk (blk_below (g := gb280) (o := .cells #[.int .i64 t278, .int .i64 t279] 50 (0, 0)) (by exact BK280.out) hb)
                          have n3_ := Aside0.mk (blk_below (g := gb285) (o := .cells #[.int .i64 t283, .int .i64 t284] 50 (0, 0)) (by exact BK285.out) hb)
                          have n4_ := Aside0.mk (below_step (by repeat (first | (with_reducible first | exact HB.out | apply below_alloc | apply pw_below_drewN | apply below_drew1 | refine below_set ?_ GE276.out | refine below_set ?_ GE277.out | refine below_set ?_ GE280.out | refine below_set ?_ GE285.out) | exact HB.out)) hb)
                          have n5_ := Aside0.mk (hbox)
                          have n6_ := Aside0.mk ((by rw [hg]; exact (below_size (by repeat (first | (with_reducible first | exact HB.out | apply below_alloc | apply pw_below_drewN | apply below_drew1 | refine below_set ?_ GE276.out | refine below_set ?_ GE277.out | refine below_set ?_ GE280.out | refine below_set ?_ GE285.out) | exact HB.out))) : w.heap.size ≤ gb290))
                          have n7_ := Aside0.mk ((by rw [hg]; exact (below_size (by repeat (first | (with_reducible first | exact HB.out | apply below_alloc | apply pw_below_drewN | apply below_drew1 | refine below_set ?_ GE276.out | refine below_set ?_ GE277.out | refine below_set ?_ GE280.out | refine below_set ?_ GE285.out) | exact HB.out))) : w.heap.size ≤ gb290))
                          have n8_ := Aside0.mk ((by rw [hg]; exact Nat.ne_of_lt (blk_lt (g := gb276) (o := .cells #[.int .i64 t272, .int .i64 t273] 50 (0, 0)) (by exact BK276.out)) : gb276 ≠ gb290))
                          have n9_ := Aside0.mk ((by rw [hg]; exact Nat.ne_of_gt (blk_lt (g := gb276) (o := .cells #[.int .i64 t272, .int .i64 t273] 50 (0, 0)) (by exact BK276.out)) : gb290 ≠ gb276))
                          have n10_ := Aside0.mk ((by rw [hg]; exact Nat.ne_of_lt (blk_lt (g := gb277) (o := .cells #[.int .i64 t274, .int .i64 t275] 50 (0, 0)) (by exact BK277.out)) : gb277 ≠ gb290))
                          have n11_ := Aside0.mk ((by rw [hg]; exact Nat.ne_of_gt (blk_lt (g := gb277) (o := .cells #[.int .i64 t274, .int .i64 t275] 50 (0, 0)) (by exact BK277.out)) : gb290 ≠ gb277))
                          have n12_ := Aside0.mk ((by rw [hg]; exact Nat.ne_of_lt (blk_lt (g := gb280) (o := .cells #[.int .i64 t278, .int .i64 t279] 50 (0, 0)) (by exact BK280.out)) : gb280 ≠ gb290))
                          have n13_ := Aside0.mk ((by rw [hg]; exact Nat.ne_of_gt (blk_lt (g := gb280) (o := .cells #[.int .i64 t278, .int .i64 t279] 50 (0, 0)) (by exact BK280.out)) : gb290 ≠ gb280))
                          have n14_ := Aside0.mk ((by rw [hg]; exact Nat.ne_of_lt (blk_lt (g := gb285) (o := .cells #[.int .i64 t283, .int .i64 t284] 50 (0, 0)) (by exact BK285.out)) : gb285 ≠ gb290))
                          have n15_ := Aside0.mk ((by rw [hg]; exact Nat.ne_of_gt (blk_lt (g := gb285) (o := .cells #[.int .i64 t283, .int .i64 t284] 50 (0, 0)) (by exact BK285.out)) : gb290 ≠ gb285))
                          clear BK276
                          clear BK277
                          clear BK280
                          clear BK285
                          clear HB
                          have BK276 := n0_
                          have BK277 := n1_
                          have BK280 := n2_
                          have BK285 := n3_
                          have HB := n4_
                          have BK290 := n5_
                          have GW290 := n6_
                          have GE290 := n7_
                          have NB276_290 := n8_
                          have NB290_276 := n9_
                          have NB277_290 := n10_
                          have NB290_277 := n11_
                          have NB280_290 := n12_
                          have NB290_280 := n13_
                          have NB285_290 := n14_
                          have NB290_285 := n15_
                          clear n0_ n1_ n2_ n3_ n4_ n5_ n6_ n7_ n8_ n9_ n10_ n11_ n12_ n13_ n14_ n15_
                          clear hb hbox hg
                          refine hK.out _ _ ⟨(blk_cell BK276.out 0).trans rfl, (blk_cell BK276.out 1).trans rfl⟩ (fun hHeld => ?_)
                          clear hK K
                          refine norm_ (a' := ?_) ?_ ?_
                          rotate_left
                          · show Act.put _ (some 7) _ = _
                            simp only [Act.put, List.setIfInBounds_toArray, List.set_cons_zero, List.set_cons_succ, i64_w, i32_w]
                            rfl
                          exact norm_ (by simp only [putAll, Act.put, List.setIfInBounds_toArray, List.set_cons_zero, List.set_cons_succ]) (hCont (gb290) _ ⟨hHeld, (by exact BK276.out), (by exact BK277.out), (by exact BK280.out), (by exact BK285.out), (by exact BK290.out), GW290.out, GE290.out, NB276_290.out, NB290_276.out, NB277_290.out, NB290_277.out, NB280_290.out, NB290_280.out, NB285_290.out, NB290_285.out, (by repeat (first | (with_reducible first | exact HB.out | apply below_alloc | apply pw_below_drewN | apply below_drew1 | refine below_set ?_ GE276.out | refine below_set ?_ GE277.out | refine below_set ?_ GE280.out | refine below_set ?_ GE285.out | refine below_set ?_ GE290.out) | exact HB.out))⟩)
                        · skip
                          refine box_step ?hg (N := 7) ?hd (cs := #[.int .i64 0, .int .i64 0]) (t := 50) ?hr ?_; (case hd => rfl); (case hg => rfl); (case hr => first | (go_simp; done) | (go_simp; rfl))
                          intro gb290 hg w101 hbox hb
                          have n0_ := Aside0.mk (blk_below (g := gb276) (o := .cells #[.int .i64 t272, .int .i64 t273] 50 (0, 0)) (by exact BK276.out) hb)
                          have n1_ := Aside0.mk (blk_below (g := gb277) (o := .cells #[.int .i64 t274, .int .i64 t275] 50 (0, 0)) (by exact BK277.out) hb)
                          have n2_ := Aside0.mk (blk_below (g := gb280) (o := .cells #[.int .i64 t278, .int .i64 t279] 50 (0, 0)) (by exact BK280.out) hb)
                          have n3_ := Aside0.mk (blk_below (g := gb285) (o := .cells #[.int .i64 t283, .int .i64 t284] 50 (0, 0)) (by exact BK285.out) hb)
                          have n4_ := Aside0.mk (below_step (by repeat (first | (with_reducible first | exact HB.out | apply below_alloc | apply pw_below_drewN | apply below_drew1 | refine below_set ?_ GE276.out | refine below_set ?_ GE277.out | refine below_set ?_ GE280.out | refine below_set ?_ GE285.out) | exact HB.out)) hb)
                          have n5_ := Aside0.mk (hbox)
                          have n6_ := Aside0.mk ((by rw [hg]; exact (below_size (by repeat (first | (with_reducible first | exact HB.out | apply below_alloc | apply pw_below_drewN | apply below_drew1 | refine below_set ?_ GE276.out | refine below_set ?_ GE277.out | refine below_set ?_ GE280.out | refine below_set ?_ GE285.out) | exact HB.out))) : w.heap.size ≤ gb290))
                          have n7_ := Aside0.mk ((by rw [hg]; exact (below_size (by repeat (first | (with_reducible first | exact HB.out | apply below_alloc | apply pw_below_drewN | apply below_drew1 | refine below_set ?_ GE276.out | refine below_set ?_ GE277.out | refine below_set ?_ GE280.out | refine below_set ?_ GE285.out) | exact HB.out))) : w.heap.size ≤ gb290))
                          have n8_ := Aside0.mk ((by rw [hg]; exact Nat.ne_of_lt (blk_lt (g := gb276) (o := .cells #[.int .i64 t272, .int .i64 t273] 50 (0, 0)) (by exact BK276.out)) : gb276 ≠ gb290))
                          have n9_ := Aside0.mk ((by rw [hg]; exact Nat.ne_of_gt (blk_lt (g := gb276) (o := .cells #[.int .i64 t272, .int .i64 t273] 50 (0, 0)) (by exact BK276.out)) : gb290 ≠ gb276))
                          have n10_ := Aside0.mk ((by rw [hg]; exact Nat.ne_of_lt (blk_lt (g := gb277) (o := .cells #[.int .i64 t274, .int .i64 t275] 50 (0, 0)) (by exact BK277.out)) : gb277 ≠ gb290))
                          have n11_ := Aside0.mk ((by rw [hg]; exact Nat.ne_of_gt (blk_lt (g := gb277) (o := .cells #[.int .i64 t274, .int .i64 t275] 50 (0, 0)) (by exact BK277.out)) : gb290 ≠ gb277))
                          have n12_ := Aside0.mk ((by rw [hg]; exact Nat.ne_of_lt (blk_lt (g := gb280) (o := .cells #[.int .i64 t278, .int .i64 t279] 50 (0, 0)) (by exact BK280.out)) : gb280 ≠ gb290))
                          have n13_ := Aside0.mk ((by rw [hg]; exact Nat.ne_of_gt (blk_lt (g := gb280) (o := .cells #[.int .i64 t278, .int .i64 t279] 50 (0, 0)) (by exact BK280.out)) : gb290 ≠ gb280))
                          have n14_ := Aside0.mk ((by rw [hg]; exact Nat.ne_of_lt (blk_lt (g := gb285) (o := .cells #[.int .i64 t283, .int .i64 t284] 50 (0, 0)) (by exact BK285.out)) : gb285 ≠ gb290))
                          have n15_ := Aside0.mk ((by rw [hg]; exact Nat.ne_of_gt (blk_lt (g := gb285) (o := .cells #[.int .i64 t283, .int .i64 t284] 50 (0, 0)) (by exact BK285.out)) : gb290 ≠ gb285))
                          clear BK276
                          clear BK277
                          clear BK280
                          clear BK285
                          clear HB
                          have BK276 := n0_
                          have BK277 := n1_
                          have BK280 := n2_
                          have BK285 := n3_
                          have HB := n4_
                          have BK290 := n5_
                          have GW290 := n6_
                          have GE290 := n7_
                          have NB276_290 := n8_
                          have NB290_276 := n9_
                          have NB277_290 := n10_
                          have NB290_277 := n11_
                          have NB280_290 := n12_
                          have NB290_280 := n13_
                          have NB285_290 := n14_
                          have NB290_285 := n15_
                          clear n0_ n1_ n2_ n3_ n4_ n5_ n6_ n7_ n8_ n9_ n10_ n11_ n12_ n13_ n14_ n15_
                          clear hb hbox hg
                          refine hK.out _ _ ⟨(blk_cell BK276.out 0).trans rfl, (blk_cell BK276.out 1).trans rfl⟩ (fun hHeld => ?_)
                          clear hK K
                          refine norm_ (a' := ?_) ?_ ?_
                          rotate_left
                          · show Act.put _ (some 7) _ = _
                            simp only [Act.put, List.setIfInBounds_toArray, List.set_cons_zero, List.set_cons_succ, i64_w, i32_w]
                            rfl
                          refine one_ (i := 3) (N := some 29) #[true, true, true, true, true, false] rfl rfl (by kernel_rfl) (by decide) (fun K hK => ?_)
                          refine goes_ Try.func45 (by kernel_rfl) rfl #[.agg #[.int .i64 t272, .int .i64 t273], .agg #[.int .i64 t286, .int .i64 t287]] (by rfl) rfl rfl (by (try simp only [List.map_toArray, List.map_cons, List.map_nil]); first | done | rfl | (simp only [List.length_drop, List.length_take]; rfl)) ?_
                          with_reducible refine (impl_TwoMul.calls t272 t273 t286 t287 t288 t289 _ A9.out).mono ?_
                          rintro e w102 ⟨rfl, hb⟩
                          refine ⟨_, rfl, ?_⟩
                          have n0_ := Aside0.mk (blk_below (g := gb276) (o := .cells #[.int .i64 t272, .int .i64 t273] 50 (0, 0)) (by exact BK276.out) hb)
                          have n1_ := Aside0.mk (blk_below (g := gb277) (o := .cells #[.int .i64 t274, .int .i64 t275] 50 (0, 0)) (by exact BK277.out) hb)
                          have n2_ := Aside0.mk (blk_below (g := gb280) (o := .cells #[.int .i64 t278, .int .i64 t279] 50 (0, 0)) (by exact BK280.out) hb)
                          have n3_ := Aside0.mk (blk_below (g := gb285) (o := .cells #[.int .i64 t283, .int .i64 t284] 50 (0, 0)) (by exact BK285.out) hb)
                          have n4_ := Aside0.mk (blk_below (g := gb290) (o := .cells #[.int .i64 0, .int .i64 0] 50 (0, 0)) (by exact BK290.out) hb)
                          have n5_ := Aside0.mk (below_step (by repeat (first | (with_reducible first | exact HB.out | apply below_alloc | apply pw_below_drewN | apply below_drew1 | refine below_set ?_ GE276.out | refine below_set ?_ GE277.out | refine below_set ?_ GE280.out | refine below_set ?_ GE285.out | refine below_set ?_ GE290.out) | exact HB.out)) hb)
                          clear BK276
                          clear BK277
                          clear BK280
                          clear BK285
                          clear BK290
                          clear HB
                          have BK276 := n0_
                          have BK277 := n1_
                          have BK280 := n2_
                          have BK285 := n3_
                          have BK290 := n4_
                          have HB := n5_
                          clear n0_ n1_ n2_ n3_ n4_ n5_
                          (try clear hb)
                          (try clear hb2)
                          (try clear hk)
                          (try clear hi)
                          refine hK.out _ _ ⟨(blk_cell BK276.out 0).trans rfl, (blk_cell BK276.out 1).trans rfl⟩ (fun hHeld => ?_)
                          clear hK K
                          refine norm_ (a' := ?_) ?_ ?_
                          rotate_left
                          · show Act.put _ (some 29) _ = _
                            simp only [Act.put, List.setIfInBounds_toArray, List.set_cons_zero, List.set_cons_succ, i64_w, i32_w]
                            rfl
                          exact norm_ (by simp only [putAll, Act.put, List.setIfInBounds_toArray, List.set_cons_zero, List.set_cons_succ]) (hCont (gb290) _ ⟨hHeld, (by exact BK276.out), (by exact BK277.out), (by exact BK280.out), (by exact BK285.out), (by exact BK290.out), GW290.out, GE290.out, NB276_290.out, NB290_276.out, NB277_290.out, NB290_277.out, NB280_290.out, NB290_280.out, NB285_290.out, NB290_285.out, (by repeat (first | (with_reducible first | exact HB.out | apply below_alloc | apply pw_below_drewN | apply below_drew1 | refine below_set ?_ GE276.out | refine below_set ?_ GE277.out | refine below_set ?_ GE280.out | refine below_set ?_ GE285.out | refine below_set ?_ GE290.out) | exact HB.out))⟩)
                      · skip
                        refine box_step ?hg (N := 7) ?hd (cs := #[.int .i64 0, .int .i64 0]) (t := 50) ?hr ?_; (case hd => rfl); (case hg => rfl); (case hr => first | (go_simp; done) | (go_simp; rfl))
                        intro gb290 hg w100 hbox hb
                        have n0_ := Aside0.mk (blk_below (g := gb276) (o := .cells #[.int .i64 t272, .int .i64 t273] 50 (0, 0)) (by exact BK276.out) hb)
                        have n1_ := Aside0.mk (blk_below (g := gb277) (o := .cells #[.int .i64 t274, .int .i64 t275] 50 (0, 0)) (by exact BK277.out) hb)
                        have n2_ := Aside0.mk (blk_below (g := gb280) (o := .cells #[.int .i64 t278, .int .i64 t279] 50 (0, 0)) (by exact BK280.out) hb)
                        have n3_ := Aside0.mk (blk_below (g := gb285) (o := .cells #[.int .i64 t283, .int .i64 t284] 50 (0, 0)) (by exact BK285.out) hb)
                        have n4_ := Aside0.mk (below_step (by repeat (first | (with_reducible first | exact HB.out | apply below_alloc | apply pw_below_drewN | apply below_drew1 | refine below_set ?_ GE276.out | refine below_set ?_ GE277.out | refine below_set ?_ GE280.out | refine below_set ?_ GE285.out) | exact HB.out)) hb)
                        have n5_ := Aside0.mk (hbox)
                        have n6_ := Aside0.mk ((by rw [hg]; exact (below_size (by repeat (first | (with_reducible first | exact HB.out | apply below_alloc | apply pw_below_drewN | apply below_drew1 | refine below_set ?_ GE276.out | refine below_set ?_ GE277.out | refine below_set ?_ GE280.out | refine below_set ?_ GE285.out) | exact HB.out))) : w.heap.size ≤ gb290))
                        have n7_ := Aside0.mk ((by rw [hg]; exact (below_size (by repeat (first | (with_reducible first | exact HB.out | apply below_alloc | apply pw_below_drewN | apply below_drew1 | refine below_set ?_ GE276.out | refine below_set ?_ GE277.out | refine below_set ?_ GE280.out | refine below_set ?_ GE285.out) | exact HB.out))) : w.heap.size ≤ gb290))
                        have n8_ := Aside0.mk ((by rw [hg]; exact Nat.ne_of_lt (blk_lt (g := gb276) (o := .cells #[.int .i64 t272, .int .i64 t273] 50 (0, 0)) (by exact BK276.out)) : gb276 ≠ gb290))
                        have n9_ := Aside0.mk ((by rw [hg]; exact Nat.ne_of_gt (blk_lt (g := gb276) (o := .cells #[.int .i64 t272, .int .i64 t273] 50 (0, 0)) (by exact BK276.out)) : gb290 ≠ gb276))
                        have n10_ := Aside0.mk ((by rw [hg]; exact Nat.ne_of_lt (blk_lt (g := gb277) (o := .cells #[.int .i64 t274, .int .i64 t275] 50 (0, 0)) (by exact BK277.out)) : gb277 ≠ gb290))
                        have n11_ := Aside0.mk ((by rw [hg]; exact Nat.ne_of_gt (blk_lt (g := gb277) (o := .cells #[.int .i64 t274, .int .i64 t275] 50 (0, 0)) (by exact BK277.out)) : gb290 ≠ gb277))
                        have n12_ := Aside0.mk ((by rw [hg]; exact Nat.ne_of_lt (blk_lt (g := gb280) (o := .cells #[.int .i64 t278, .int .i64 t279] 50 (0, 0)) (by exact BK280.out)) : gb280 ≠ gb290))
                        have n13_ := Aside0.mk ((by rw [hg]; exact Nat.ne_of_gt (blk_lt (g := gb280) (o := .cells #[.int .i64 t278, .int .i64 t279] 50 (0, 0)) (by exact BK280.out)) : gb290 ≠ gb280))
                        have n14_ := Aside0.mk ((by rw [hg]; exact Nat.ne_of_lt (blk_lt (g := gb285) (o := .cells #[.int .i64 t283, .int .i64 t284] 50 (0, 0)) (by exact BK285.out)) : gb285 ≠ gb290))
                        have n15_ := Aside0.mk ((by rw [hg]; exact Nat.ne_of_gt (blk_lt (g := gb285) (o := .cells #[.int .i64 t283, .int .i64 t284] 50 (0, 0)) (by exact BK285.out)) : gb290 ≠ gb285))
                        clear BK276
                        clear BK277
                        clear BK280
                        clear BK285
                        clear HB
                        have BK276 := n0_
                        have BK277 := n1_
                        have BK280 := n2_
                        have BK285 := n3_
                        have HB := n4_
                        have BK290 := n5_
                        have GW290 := n6_
                        have GE290 := n7_
                        have NB276_290 := n8_
                        have NB290_276 := n9_
                        have NB277_290 := n10_
                        have NB290_277 := n11_
                        have NB280_290 := n12_
                        have NB290_280 := n13_
                        have NB285_290 := n14_
                        have NB290_285 := n15_
                        clear n0_ n1_ n2_ n3_ n4_ n5_ n6_ n7_ n8_ n9_ n10_ n11_ n12_ n13_ n14_ n15_
                        clear hb hbox hg
                        refine hK.out _ _ ⟨(blk_cell BK276.out 0).trans rfl, (blk_cell BK276.out 1).trans rfl⟩ (fun hHeld => ?_)
                        clear hK K
                        refine norm_ (a' := ?_) ?_ ?_
                        rotate_left
                        · show Act.put _ (some 7) _ = _
                          simp only [Act.put, List.setIfInBounds_toArray, List.set_cons_zero, List.set_cons_succ, i64_w, i32_w]
                          rfl
                        refine one_ (i := 2) (N := some 28) #[true, true, true, false, true, false] rfl rfl (by kernel_rfl) (by decide) (fun K hK => ?_)
                        refine goes_ Try.func47 (by kernel_rfl) rfl #[.agg #[.int .i64 t272, .int .i64 t273]] (by rfl) rfl rfl (by (try simp only [List.map_toArray, List.map_cons, List.map_nil]); first | done | rfl | (simp only [List.length_drop, List.length_take]; rfl)) ?_
                        with_reducible refine (impl_TwoInv.calls k t272 t273 t286 t287 _ A8.out).mono ?_
                        rintro e w101 ⟨rfl, hb⟩
                        refine ⟨_, rfl, ?_⟩
                        have n0_ := Aside0.mk (blk_below (g := gb276) (o := .cells #[.int .i64 t272, .int .i64 t273] 50 (0, 0)) (by exact BK276.out) hb)
                        have n1_ := Aside0.mk (blk_below (g := gb277) (o := .cells #[.int .i64 t274, .int .i64 t275] 50 (0, 0)) (by exact BK277.out) hb)
                        have n2_ := Aside0.mk (blk_below (g := gb280) (o := .cells #[.int .i64 t278, .int .i64 t279] 50 (0, 0)) (by exact BK280.out) hb)
                        have n3_ := Aside0.mk (blk_below (g := gb285) (o := .cells #[.int .i64 t283, .int .i64 t284] 50 (0, 0)) (by exact BK285.out) hb)
                        have n4_ := Aside0.mk (blk_below (g := gb290) (o := .cells #[.int .i64 0, .int .i64 0] 50 (0, 0)) (by exact BK290.out) hb)
                        have n5_ := Aside0.mk (below_step (by repeat (first | (with_reducible first | exact HB.out | apply below_alloc | apply pw_below_drewN | apply below_drew1 | refine below_set ?_ GE276.out | refine below_set ?_ GE277.out | refine below_set ?_ GE280.out | refine below_set ?_ GE285.out | refine below_set ?_ GE290.out) | exact HB.out)) hb)
                        clear BK276
                        clear BK277
                        clear BK280
                        clear BK285
                        clear BK290
                        clear HB
                        have BK276 := n0_
                        have BK277 := n1_
                        have BK280 := n2_
                        have BK285 := n3_
                        have BK290 := n4_
                        have HB := n5_
                        clear n0_ n1_ n2_ n3_ n4_ n5_
                        (try clear hb)
                        (try clear hb2)
                        (try clear hk)
                        (try clear hi)
                        refine hK.out _ _ ⟨(blk_cell BK276.out 0).trans rfl, (blk_cell BK276.out 1).trans rfl⟩ (fun hHeld => ?_)
                        clear hK K
                        refine norm_ (a' := ?_) ?_ ?_
                        rotate_left
                        · show Act.put _ (some 28) _ = _
                          simp only [Act.put, List.setIfInBounds_toArray, List.set_cons_zero, List.set_cons_succ, i64_w, i32_w]
                          rfl
                        refine one_ (i := 3) (N := some 29) #[true, true, true, true, true, false] rfl rfl (by kernel_rfl) (by decide) (fun K hK => ?_)
                        refine goes_ Try.func45 (by kernel_rfl) rfl #[.agg #[.int .i64 t272, .int .i64 t273], .agg #[.int .i64 t286, .int .i64 t287]] (by rfl) rfl rfl (by (try simp only [List.map_toArray, List.map_cons, List.map_nil]); first | done | rfl | (simp only [List.length_drop, List.length_take]; rfl)) ?_
                        with_reducible refine (impl_TwoMul.calls t272 t273 t286 t287 t288 t289 _ A9.out).mono ?_
                        rintro e w102 ⟨rfl, hb⟩
                        refine ⟨_, rfl, ?_⟩
                        have n0_ := Aside0.mk (blk_below (g := gb276) (o := .cells #[.int .i64 t272, .int .i64 t273] 50 (0, 0)) (by exact BK276.out) hb)
                        have n1_ := Aside0.mk (blk_below (g := gb277) (o := .cells #[.int .i64 t274, .int .i64 t275] 50 (0, 0)) (by exact BK277.out) hb)
                        have n2_ := Aside0.mk (blk_below (g := gb280) (o := .cells #[.int .i64 t278, .int .i64 t279] 50 (0, 0)) (by exact BK280.out) hb)
                        have n3_ := Aside0.mk (blk_below (g := gb285) (o := .cells #[.int .i64 t283, .int .i64 t284] 50 (0, 0)) (by exact BK285.out) hb)
                        have n4_ := Aside0.mk (blk_below (g := gb290) (o := .cells #[.int .i64 0, .int .i64 0] 50 (0, 0)) (by exact BK290.out) hb)
                        have n5_ := Aside0.mk (below_step (by repeat (first | (with_reducible first | exact HB.out | apply below_alloc | apply pw_below_drewN | apply below_drew1 | refine below_set ?_ GE276.out | refine below_set ?_ GE277.out | refine below_set ?_ GE280.out | refine below_set ?_ GE285.out | refine below_set ?_ GE290.out) | exact HB.out)) hb)
                        clear BK276
                        clear BK277
                        clear BK280
                        clear BK285
                        clear BK290
                        clear HB
                        have BK276 := n0_
                        have BK277 := n1_
                        have BK280 := n2_
                        have BK285 := n3_
                        have BK290 := n4_
                        have HB := n5_
                        clear n0_ n1_ n2_ n3_ n4_ n5_
                        (try clear hb)
                        (try clear hb2)
                        (try clear hk)
                        (try clear hi)
                        refine hK.out _ _ ⟨(blk_cell BK276.out 0).trans rfl, (blk_cell BK276.out 1).trans rfl⟩ (fun hHeld => ?_)
                        clear hK K
                        refine norm_ (a' := ?_) ?_ ?_
                        rotate_left
                        · show Act.put _ (some 29) _ = _
                          simp only [Act.put, List.setIfInBounds_toArray, List.set_cons_zero, List.set_cons_succ, i64_w, i32_w]
                          rfl
                        exact norm_ (by simp only [putAll, Act.put, List.setIfInBounds_toArray, List.set_cons_zero, List.set_cons_succ]) (hCont (gb290) _ ⟨hHeld, (by exact BK276.out), (by exact BK277.out), (by exact BK280.out), (by exact BK285.out), (by exact BK290.out), GW290.out, GE290.out, NB276_290.out, NB290_276.out, NB277_290.out, NB290_277.out, NB280_290.out, NB290_280.out, NB285_290.out, NB290_285.out, (by repeat (first | (with_reducible first | exact HB.out | apply below_alloc | apply pw_below_drewN | apply below_drew1 | refine below_set ?_ GE276.out | refine below_set ?_ GE277.out | refine below_set ?_ GE280.out | refine below_set ?_ GE285.out | refine below_set ?_ GE290.out) | exact HB.out))⟩)
                    rintro gb290 w103 ⟨hS_, h0_, h1_, h2_, h3_, h4_, h5_, h6_, h7_, h8_, h9_, h10_, h11_, h12_, h13_, h14_, h15_⟩
                    have n0_ : Aside0 (w103.heap[gb276]? = some (.cells #[.int .i64 t272, .int .i64 t273] 50 (0, 0))) := ⟨h0_⟩
                    have n1_ : Aside0 (w103.heap[gb277]? = some (.cells #[.int .i64 t274, .int .i64 t275] 50 (0, 0))) := ⟨h1_⟩
                    have n2_ : Aside0 (w103.heap[gb280]? = some (.cells #[.int .i64 t278, .int .i64 t279] 50 (0, 0))) := ⟨h2_⟩
                    have n3_ : Aside0 (w103.heap[gb285]? = some (.cells #[.int .i64 t283, .int .i64 t284] 50 (0, 0))) := ⟨h3_⟩
                    have n4_ : Aside0 (w103.heap[gb290]? = some (.cells #[.int .i64 0, .int .i64 0] 50 (0, 0))) := ⟨h4_⟩
                    have n5_ : Aside0 (w.heap.size ≤ gb290) := ⟨h5_⟩
                    have n6_ : Aside0 (w.heap.size ≤ gb290) := ⟨h6_⟩
                    have n7_ : Aside0 (gb276 ≠ gb290) := ⟨h7_⟩
                    have n8_ : Aside0 (gb290 ≠ gb276) := ⟨h8_⟩
                    have n9_ : Aside0 (gb277 ≠ gb290) := ⟨h9_⟩
                    have n10_ : Aside0 (gb290 ≠ gb277) := ⟨h10_⟩
                    have n11_ : Aside0 (gb280 ≠ gb290) := ⟨h11_⟩
                    have n12_ : Aside0 (gb290 ≠ gb280) := ⟨h12_⟩
                    have n13_ : Aside0 (gb285 ≠ gb290) := ⟨h13_⟩
                    have n14_ : Aside0 (gb290 ≠ gb285) := ⟨h14_⟩
                    have n15_ : Aside0 (Below w.heap.size w w103) := ⟨h15_⟩
                    clear BK276
                    clear BK277
                    clear BK280
                    clear BK285
                    clear HB
                    clear h0_ h1_ h2_ h3_ h4_ h5_ h6_ h7_ h8_ h9_ h10_ h11_ h12_ h13_ h14_ h15_
                    have BK276 := n0_
                    have BK277 := n1_
                    have BK280 := n2_
                    have BK285 := n3_
                    have BK290 := n4_
                    have GW290 := n5_
                    have GE290 := n6_
                    have NB276_290 := n7_
                    have NB290_276 := n8_
                    have NB277_290 := n9_
                    have NB290_277 := n10_
                    have NB280_290 := n11_
                    have NB290_280 := n12_
                    have NB285_290 := n13_
                    have NB290_285 := n14_
                    have HB := n15_
                    clear n0_ n1_ n2_ n3_ n4_ n5_ n6_ n7_ n8_ n9_ n10_ n11_ n12_ n13_ n14_ n15_
                    have hHeld : w103.cell? ⟨gb276, 0, none⟩ = some (.int .i64 t272) ∧ w103.cell? ⟨gb276, 1, none⟩ = some (.int .i64 t273) := hS_
                    refine norm_ (a' := ?_) ?_ ?_
                    rotate_left
                    · simp only [putAll, Act.put, List.setIfInBounds_toArray, List.set_cons_zero, List.set_cons_succ]
                      rfl
                    refine one_ (i := 5) (N := none) #[true, true, true, true, true, true] rfl rfl (by kernel_rfl) (by decide) (fun K hK => ?_)
                    have hs104 : w103.cell? ⟨gb290, 0, none⟩ = some (.int .i64 0) := (blk_cell BK290.out 0).trans rfl
                    have hfs104 := blk_frozen BK290.out 0
                    have hns104_0 := NB276_290.out
                    have hns104_1 := NB277_290.out
                    have hns104_2 := NB280_290.out
                    have hns104_3 := NB285_290.out
                    have hms104_0 := NB290_276.out
                    have hms104_1 := NB290_277.out
                    have hms104_2 := NB290_280.out
                    have hms104_3 := NB290_285.out
                    have hs105 : w103.cell? ⟨gb290, 1, none⟩ = some (.int .i64 0) := (blk_cell BK290.out 1).trans rfl
                    have hfs105 := blk_frozen BK290.out 1
                    have hns105_0 := NB276_290.out
                    have hns105_1 := NB277_290.out
                    have hns105_2 := NB280_290.out
                    have hns105_3 := NB285_290.out
                    have hms105_0 := NB290_276.out
                    have hms105_1 := NB290_277.out
                    have hms105_2 := NB290_280.out
                    have hms105_3 := NB290_285.out
                    refine skip_ (w1 := ?_) (by rfl) rfl ?_ ?_
                    rotate_left
                    · go_simp
                      rfl
                    refine hK.out _ _ ⟨((cell_far (p := ⟨gb290, _, none⟩) NB276_290.out _).trans (((cell_far (p := ⟨gb290, _, none⟩) NB276_290.out _).trans (hHeld.1)))), ((cell_far (p := ⟨gb290, _, none⟩) NB276_290.out _).trans (((cell_far (p := ⟨gb290, _, none⟩) NB276_290.out _).trans (hHeld.2))))⟩ (fun hHeld => ?_)
                    clear hK K
                    refine done_ (by kernel_rfl) ?_
                    try go_wp2_with (first | ((with_reducible refine gate_callee (f := 20) rfl ?_); refine goesL_ (some 31) rfl rfl Try.func20 (by kernel_rfl) rfl #[.slice A0 l0.length c0] rfl (by (try simp only [List.map_toArray, List.map_cons, List.map_nil]); first | done | rfl | (simp only [List.length_drop, List.length_take]; rfl)) ?_; (with_reducible refine (spec_DrawPlaces.calls k _ _ l0 t291 _ ?side1 ?side2 A10.out).mono ?_); (case side1 => exact Kd.C_below HR0.out (by repeat (first | (with_reducible first | exact HB.out | apply below_alloc | apply pw_below_drewN | apply below_drew1 | refine below_set ?_ GE276.out | refine below_set ?_ GE277.out | refine below_set ?_ GE280.out | refine below_set ?_ GE285.out | refine below_set ?_ GE290.out) | exact HB.out))); (case side2 => exact HC0.out); rintro e w106 ⟨v292, rfl, ho0, hb⟩; refine ⟨_, rfl, ?_⟩; have n0_ := Aside0.mk (Kd.R_lower ho0 (below_size (by repeat (first | (with_reducible first | exact HB.out | apply below_alloc | apply pw_below_drewN | apply below_drew1 | refine below_set ?_ GE276.out | refine below_set ?_ GE277.out | refine below_set ?_ GE280.out | refine below_set ?_ GE285.out | refine below_set ?_ GE290.out) | exact HB.out)))); have n1_ := Aside0.mk (blk_below (g := gb276) (o := .cells #[.int .i64 t272, .int .i64 t273] 50 (0, 0)) (by (with_reducible repeat (first | refine blk_drewN ?_ _ | refine blk_drew ?_ | refine blk_alloc ?_ _)); refine blk_far ?_ NB276_290.out _; (with_reducible repeat (first | refine blk_drewN ?_ _ | refine blk_drew ?_ | refine blk_alloc ?_ _)); refine blk_far ?_ NB276_290.out _; exact BK276.out) hb); have n2_ := Aside0.mk (blk_below (g := gb277) (o := .cells #[.int .i64 t274, .int .i64 t275] 50 (0, 0)) (by (with_reducible repeat (first | refine blk_drewN ?_ _ | refine blk_drew ?_ | refine blk_alloc ?_ _)); refine blk_far ?_ NB277_290.out _; (with_reducible repeat (first | refine blk_drewN ?_ _ | refine blk_drew ?_ | refine blk_alloc ?_ _)); refine blk_far ?_ NB277_290.out _; exact BK277.out) hb); have n3_ := Aside0.mk (blk_below (g := gb280) (o := .cells #[.int .i64 t278, .int .i64 t279] 50 (0, 0)) (by (with_reducible repeat (first | refine blk_drewN ?_ _ | refine blk_drew ?_ | refine blk_alloc ?_ _)); refine blk_far ?_ NB280_290.out _; (with_reducible repeat (first | refine blk_drewN ?_ _ | refine blk_drew ?_ | refine blk_alloc ?_ _)); refine blk_far ?_ NB280_290.out _; exact BK280.out) hb); have n4_ := Aside0.mk (blk_below (g := gb285) (o := .cells #[.int .i64 t283, .int .i64 t284] 50 (0, 0)) (by (with_reducible repeat (first | refine blk_drewN ?_ _ | refine blk_drew ?_ | refine blk_alloc ?_ _)); refine blk_far ?_ NB285_290.out _; (with_reducible repeat (first | refine blk_drewN ?_ _ | refine blk_drew ?_ | refine blk_alloc ?_ _)); refine blk_far ?_ NB285_290.out _; exact BK285.out) hb); have n5_ := Aside0.mk (blk_below (g := gb290) (o := .cells #[.int .i64 t288, .int .i64 t289] 50 (0, 0)) (by (with_reducible repeat (first | refine blk_drewN ?_ _ | refine blk_drew ?_ | refine blk_alloc ?_ _)); refine blk_put (cs := #[.int .i64 t288, .int .i64 0]) ?_ 1 _ rfl; (with_reducible repeat (first | refine blk_drewN ?_ _ | refine blk_drew ?_ | refine blk_alloc ?_ _)); refine blk_put (cs := #[.int .i64 0, .int .i64 0]) ?_ 0 _ rfl; exact BK290.out) hb); have n6_ := Aside0.mk (below_step (by repeat (first | (with_reducible first | exact HB.out | apply below_alloc | apply pw_below_drewN | apply below_drew1 | refine below_set ?_ GE276.out | refine below_set ?_ GE277.out | refine below_set ?_ GE280.out | refine below_set ?_ GE285.out | refine below_set ?_ GE290.out) | exact HB.out)) hb); clear BK276; clear BK277; clear BK280; clear BK285; clear BK290; clear HB; have HO293 := n0_; have BK276 := n1_; have BK277 := n2_; have BK280 := n3_; have BK285 := n4_; have BK290 := n5_; have HB := n6_; clear n0_ n1_ n2_ n3_ n4_ n5_ n6_; (try clear hb); (try clear hb2); (try clear hk); (try clear hi); (try clear ho0); obtain ⟨Ao107, co107, eo107⟩ := Kd.R_slice HO293.out; subst eo107; have p294 : 0 ≤ (0 : Int) := (by omega); have q294 : 0 < (t291.length : Int) := of_decide_eq_true (by first | (with_reducible assumption) | assumption); obtain ⟨ad294, e294, hx294_0⟩ := Kd.at_int (Kd.R_reads' HO293.out).2.2 0 p294 q294; cases e294; have qi294 : (0 < t291.length) = True := eq_true (by omega); (try rw [show ((0 : Int)).toNat = 0 from rfl] at hx294_0); (try rw [Addr.add_zero'] at hx294_0); replace p294 := eq_true p294; replace q294 := eq_true q294))
                    have n0_ := Aside0.mk (Kd.R_drew HO293.out)
                    have n1_ := Aside0.mk (blk_drew BK276.out)
                    have n2_ := Aside0.mk (blk_drew BK277.out)
                    have n3_ := Aside0.mk (blk_drew BK280.out)
                    have n4_ := Aside0.mk (blk_drew BK285.out)
                    have n5_ := Aside0.mk (blk_drew BK290.out)
                    have n6_ := Aside0.mk (below_drew1 HB.out)
                    clear HO293
                    clear BK276
                    clear BK277
                    clear BK280
                    clear BK285
                    clear BK290
                    clear HB
                    have HO293 := n0_
                    have BK276 := n1_
                    have BK277 := n2_
                    have BK280 := n3_
                    have BK285 := n4_
                    have BK290 := n5_
                    have HB := n6_
                    clear n0_ n1_ n2_ n3_ n4_ n5_ n6_
                    refine start_ (n := 8) (S := fun w' => w'.cell? ⟨gb276, 0, none⟩ = some (.int .i64 t272) ∧ w'.cell? ⟨gb276, 1, none⟩ = some (.int .i64 t273)) (ds := []) #[false, false, false, false, false, false, false, false] (by kernel_rfl) rfl rfl ⟨(blk_cell BK276.out 0).trans rfl, (blk_cell BK276.out 1).trans rfl⟩ (fun hHeld => ?_); refine with_tabW laws_FnTwos.tab8 laws_FnTwos.bits8 (fun HT_ HW_ => ?_)
                    generalize w106.drew = w108 at HO293 BK276 BK277 BK280 BK285 BK290 HB hHeld ⊢
                    refine pure_ (i := 1) (N := some 36) (v := ?_) (a' := ?_) #[false, true, false, false, false, false, false, false] rfl rfl (any_of HT_.out (by kernel_rfl)) (fun _ _ _ h => h) (Or.inl ⟨by rfl, ?_⟩) ?_ ?_
                    rotate_left
                    · intro w'
                      go_simp
                      with_reducible rfl
                    rotate_left
                    · simp only [Act.put, List.setIfInBounds_toArray, List.set_cons_zero, List.set_cons_succ, i64_w, i32_w]
                      rfl
                    refine take_ (i := 0) (N := some 35) (v := ?_) (a' := ?_) #[true, true, false, false, false, false, false, false] rfl rfl (take_ofW HT_.out HW_.out (by kernel_rfl)) (fun _ _ _ h => h) (Or.inl ⟨by rfl, ?_⟩) hHeld ?_ ?_
                    rotate_left
                    · rintro w' ⟨s0, s1⟩
                      go_simp
                      with_reducible rfl
                    rotate_left
                    · simp only [Act.put, List.setIfInBounds_toArray, List.set_cons_zero, List.set_cons_succ, i64_w, i32_w]
                      rfl
                    refine take_ (i := 3) (N := some 38) (v := ?_) (a' := ?_) #[true, true, false, true, false, false, false, false] rfl rfl (take_ofW HT_.out HW_.out (by kernel_rfl)) (fun _ _ _ h => h) (Or.inl ⟨by rfl, ?_⟩) hHeld ?_ ?_
                    rotate_left
                    · rintro w' ⟨s0, s1⟩
                      go_simp
                      with_reducible rfl
                    rotate_left
                    · simp only [Act.put, List.setIfInBounds_toArray, List.set_cons_zero, List.set_cons_succ, i64_w, i32_w]
                      rfl
                    refine join_ (σ := Nat) 1 #[true, true, true, true, true, true, true, false] (fun s_ => [(37, .agg #[.int .i64 t295, .int .i64 t296]), (39, .agg #[.int .i64 t297, .int .i64 t298]), (40, .agg #[.int .i64 t299, .int .i64 t300]), (9, .pointer (some ⟨s_, 0, none⟩))]) (fun s_ w' => (w'.cell? ⟨gb276, 0, none⟩ = some (.int .i64 t272) ∧ w'.cell? ⟨gb276, 1, none⟩ = some (.int .i64 t273)) ∧ (Kd.R (Kd.int .i64) 3 w' w.heap.size (fun _ => True) (.slice (some ad294) t291.length co107) t291) ∧ (w'.heap[gb276]? = some (.cells #[.int .i64 t272, .int .i64 t273] 50 (0, 0))) ∧ (w'.heap[gb277]? = some (.cells #[.int .i64 t274, .int .i64 t275] 50 (0, 0))) ∧ (w'.heap[gb280]? = some (.cells #[.int .i64 t278, .int .i64 t279] 50 (0, 0))) ∧ (w'.heap[gb285]? = some (.cells #[.int .i64 t283, .int .i64 t284] 50 (0, 0))) ∧ (w'.heap[gb290]? = some (.cells #[.int .i64 t288, .int .i64 t289] 50 (0, 0))) ∧ (w'.heap[s_]? = some (.cells #[.int .i64 0, .int .i64 0] 50 (0, 0))) ∧ (w.heap.size ≤ s_) ∧ (w.heap.size ≤ s_) ∧ (gb276 ≠ s_) ∧ (s_ ≠ gb276) ∧ (gb277 ≠ s_) ∧ (s_ ≠ gb277) ∧ (gb280 ≠ s_) ∧ (s_ ≠ gb280) ∧ (gb285 ≠ s_) ∧ (s_ ≠ gb285) ∧ (gb290 ≠ s_) ∧ (s_ ≠ gb290) ∧ (Below w.heap.size w w')) ?_ ?_
                    rotate_left
                    · intro hCont
                      refine two_ (i := 2) (j := 6) (Ni := some 37) (Nj := some 9) #[true, true, true, true, false, false, false, false] #[true, true, false, true, false, false, true, false] rfl rfl rfl rfl (two_of HT_.out (by kernel_rfl)) (by decide) (by decide) (fun K hK => ?_) (fun K hK => ?_)
                      · skip
                        refine goes_ Try.func48 (by kernel_rfl) rfl #[.agg #[.int .i64 t272, .int .i64 t273], .int .i64 (Int.tmod (rd t291 0) 40)] (by rfl) rfl rfl (by (try simp only [List.map_toArray, List.map_cons, List.map_nil]); first | done | rfl | (simp only [List.length_drop, List.length_take]; rfl)) ?_
                        with_reducible refine (impl_TwoPow.calls k t272 t273 (Int.tmod (rd t291 0) 40) t295 t296 _ A12.out).mono ?_
                        rintro e w109 ⟨rfl, hb⟩
                        refine ⟨_, rfl, ?_⟩
                        have n0_ := Aside0.mk (Kd.R_below (by (with_reducible repeat (first | apply Kd.R_alloc | apply Kd.R_drewN | apply Kd.R_drew)); exact HO293.out) hb)
                        have n1_ := Aside0.mk (blk_below (g := gb276) (o := .cells #[.int .i64 t272, .int .i64 t273] 50 (0, 0)) (by exact BK276.out) hb)
                        have n2_ := Aside0.mk (blk_below (g := gb277) (o := .cells #[.int .i64 t274, .int .i64 t275] 50 (0, 0)) (by exact BK277.out) hb)
                        have n3_ := Aside0.mk (blk_below (g := gb280) (o := .cells #[.int .i64 t278, .int .i64 t279] 50 (0, 0)) (by exact BK280.out) hb)
                        have n4_ := Aside0.mk (blk_below (g := gb285) (o := .cells #[.int .i64 t283, .int .i64 t284] 50 (0, 0)) (by exact BK285.out) hb)
                        have n5_ := Aside0.mk (blk_below (g := gb290) (o := .cells #[.int .i64 t288, .int .i64 t289] 50 (0, 0)) (by exact BK290.out) hb)
                        have n6_ := Aside0.mk (below_step (by repeat (first | (with_reducible first | exact HB.out | apply below_alloc | apply pw_below_drewN | apply below_drew1 | refine below_set ?_ GE276.out | refine below_set ?_ GE277.out | refine below_set ?_ GE280.out | refine below_set ?_ GE285.out | refine below_set ?_ GE290.out) | exact HB.out)) hb)
                        clear HO293
                        clear BK276
                        clear BK277
                        clear BK280
                        clear BK285
                        clear BK290
                        clear HB
                        have HO293 := n0_
                        have BK276 := n1_
                        have BK277 := n2_
                        have BK280 := n3_
                        have BK285 := n4_
                        have BK290 := n5_
                        have HB := n6_
                        clear n0_ n1_ n2_ n3_ n4_ n5_ n6_
                        (try clear hb)
                        (try clear hb2)
                        (try clear hk)
                        (try clear hi)
                        refine hK.out _ _ ⟨(blk_cell BK276.out 0).trans rfl, (blk_cell BK276.out 1).trans rfl⟩ (fun hHeld => ?_)
                        clear hK K
                        refine norm_ (a' := ?_) ?_ ?_
                        rotate_left
                        · show Act.put _ (some 37) _ = _
                          simp only [Act.put, List.setIfInBounds_toArray, List.set_cons_zero, List.set_cons_succ, i64_w, i32_w]
                          rfl
                        refine two_ (i := 4) (j := 6) (Ni := some 39) (Nj := some 9) #[true, true, true, true, true, false, false, false] #[true, true, true, true, false, false, true, false] rfl rfl rfl rfl (two_of HT_.out (by kernel_rfl)) (by decide) (by decide) (fun K hK => ?_) (fun K hK => ?_)
                        · skip
                          refine goes_ Try.func48 (by kernel_rfl) rfl #[.agg #[.int .i64 t272, .int .i64 t273], .int .i64 3] (by rfl) rfl rfl (by (try simp only [List.map_toArray, List.map_cons, List.map_nil]); first | done | rfl | (simp only [List.length_drop, List.length_take]; rfl)) ?_
                          with_reducible refine (impl_TwoPow.calls k t272 t273 3 t297 t298 _ A13.out).mono ?_
                          rintro e w110 ⟨rfl, hb⟩
                          refine ⟨_, rfl, ?_⟩
                          have n0_ := Aside0.mk (Kd.R_below (by (with_reducible repeat (first | apply Kd.R_alloc | apply Kd.R_drewN | apply Kd.R_drew)); exact HO293.out) hb)
                          have n1_ := Aside0.mk (blk_below (g := gb276) (o := .cells #[.int .i64 t272, .int .i64 t273] 50 (0, 0)) (by exact BK276.out) hb)
                          have n2_ := Aside0.mk (blk_below (g := gb277) (o := .cells #[.int .i64 t274, .int .i64 t275] 50 (0, 0)) (by exact BK277.out) hb)
                          have n3_ := Aside0.mk (blk_below (g := gb280) (o := .cells #[.int .i64 t278, .int .i64 t279] 50 (0, 0)) (by exact BK280.out) hb)
                          have n4_ := Aside0.mk (blk_below (g := gb285) (o := .cells #[.int .i64 t283, .int .i64 t284] 50 (0, 0)) (by exact BK285.out) hb)
                          have n5_ := Aside0.mk (blk_below (g := gb290) (o := .cells #[.int .i64 t288, .int .i64 t289] 50 (0, 0)) (by exact BK290.out) hb)
                          have n6_ := Aside0.mk (below_step (by repeat (first | (with_reducible first | exact HB.out | apply below_alloc | apply pw_below_drewN | apply below_drew1 | refine below_set ?_ GE276.out | refine below_set ?_ GE277.out | refine below_set ?_ GE280.out | refine below_set ?_ GE285.out | refine below_set ?_ GE290.out) | exact HB.out)) hb)
                          clear HO293
                          clear BK276
                          clear BK277
                          clear BK280
                          clear BK285
                          clear BK290
                          clear HB
                          have HO293 := n0_
                          have BK276 := n1_
                          have BK277 := n2_
                          have BK280 := n3_
                          have BK285 := n4_
                          have BK290 := n5_
                          have HB := n6_
                          clear n0_ n1_ n2_ n3_ n4_ n5_ n6_
                          (try clear hb)
                          (try clear hb2)
                          (try clear hk)
                          (try clear hi)
                          refine hK.out _ _ ⟨(blk_cell BK276.out 0).trans rfl, (blk_cell BK276.out 1).trans rfl⟩ (fun hHeld => ?_)
                          clear hK K
                          refine norm_ (a' := ?_) ?_ ?_
                          rotate_left
                          · show Act.put _ (some 39) _ = _
                            simp only [Act.put, List.setIfInBounds_toArray, List.set_cons_zero, List.set_cons_succ, i64_w, i32_w]
                            rfl
                          refine two_ (i := 5) (j := 6) (Ni := some 40) (Nj := some 9) #[true, true, true, true, true, true, false, false] #[true, true, true, true, true, false, true, false] rfl rfl rfl rfl (two_of HT_.out (by kernel_rfl)) (by decide) (by decide) (fun K hK => ?_) (fun K hK => ?_)
                          · skip
                            refine goes_ Try.func45 (by kernel_rfl) rfl #[.agg #[.int .i64 t295, .int .i64 t296], .agg #[.int .i64 t297, .int .i64 t298]] (by rfl) rfl rfl (by (try simp only [List.map_toArray, List.map_cons, List.map_nil]); first | done | rfl | (simp only [List.length_drop, List.length_take]; rfl)) ?_
                            with_reducible refine (impl_TwoMul.calls t295 t296 t297 t298 t299 t300 _ A14.out).mono ?_
                            rintro e w111 ⟨rfl, hb⟩
                            refine ⟨_, rfl, ?_⟩
                            have n0_ := Aside0.mk (Kd.R_below (by (with_reducible repeat (first | apply Kd.R_alloc | apply Kd.R_drewN | apply Kd.R_drew)); exact HO293.out) hb)
                            have n1_ := Aside0.mk (blk_below (g := gb276) (o := .cells #[.int .i64 t272, .int .i64 t273] 50 (0, 0)) (by exact BK276.out) hb)
                            have n2_ := Aside0.mk (blk_below (g := gb277) (o := .cells #[.int .i64 t274, .int .i64 t275] 50 (0, 0)) (by exact BK277.out) hb)
                            have n3_ := Aside0.mk (blk_below (g := gb280) (o := .cells #[.int .i64 t278, .int .i64 t279] 50 (0, 0)) (by exact BK280.out) hb)
                            have n4_ := Aside0.mk (blk_below (g := gb285) (o := .cells #[.int .i64 t283, .int .i64 t284] 50 (0, 0)) (by exact BK285.out) hb)
                            have n5_ := Aside0.mk (blk_below (g := gb290) (o := .cells #[.int .i64 t288, .int .i64 t289] 50 (0, 0)) (by exact BK290.out) hb)
                            have n6_ := Aside0.mk (below_step (by repeat (first | (with_reducible first | exact HB.out | apply below_alloc | apply pw_below_drewN | apply below_drew1 | refine below_set ?_ GE276.out | refine below_set ?_ GE277.out | refine below_set ?_ GE280.out | refine below_set ?_ GE285.out | refine below_set ?_ GE290.out) | exact HB.out)) hb)
                            clear HO293
                            clear BK276
                            clear BK277
                            clear BK280
                            clear BK285
                            clear BK290
                            clear HB
                            have HO293 := n0_
                            have BK276 := n1_
                            have BK277 := n2_
                            have BK280 := n3_
                            have BK285 := n4_
                            have BK290 := n5_
                            have HB := n6_
                            clear n0_ n1_ n2_ n3_ n4_ n5_ n6_
                            (try clear hb)
                            (try clear hb2)
                            (try clear hk)
                            (try clear hi)
                            refine hK.out _ _ ⟨(blk_cell BK276.out 0).trans rfl, (blk_cell BK276.out 1).trans rfl⟩ (fun hHeld => ?_)
                            clear hK K
                            refine norm_ (a' := ?_) ?_ ?_
                            rotate_left
                            · show Act.put _ (some 40) _ = _
                              simp only [Act.put, List.setIfInBounds_toArray, List.set_cons_zero, List.set_cons_succ, i64_w, i32_w]
                              rfl
                            refine one_ (i := 6) (N := some 9) #[true, true, true, true, true, true, true, false] rfl rfl (one_of HT_.out (by kernel_rfl)) (by decide) (fun K hK => ?_)
                            refine box_step ?hg (N := 9) ?hd (cs := #[.int .i64 0, .int .i64 0]) (t := 50) ?hr ?_; (case hd => rfl); (case hg => rfl); (case hr => first | (go_simp; done) | (go_simp; rfl))
                            intro gb301 hg w112 hbox hb
                            have n0_ := Aside0.mk (Kd.R_below (by (with_reducible repeat (first | apply Kd.R_alloc | apply Kd.R_drewN | apply Kd.R_drew)); exact HO293.out) hb)
                            have n1_ := Aside0.mk (blk_below (g := gb276) (o := .cells #[.int .i64 t272, .int .i64 t273] 50 (0, 0)) (by exact BK276.out) hb)
                            have n2_ := Aside0.mk (blk_below (g := gb277) (o := .cells #[.int .i64 t274, .int .i64 t275] 50 (0, 0)) (by exact BK277.out) hb)
                            have n3_ := Aside0.mk (blk_below (g := gb280) (o := .cells #[.int .i64 t278, .int .i64 t279] 50 (0, 0)) (by exact BK280.out) hb)
                            have n4_ := Aside0.mk (blk_below (g := gb285) (o := .cells #[.int .i64 t283, .int .i64 t284] 50 (0, 0)) (by exact BK285.out) hb)
                            have n5_ := Aside0.mk (blk_below (g := gb290) (o := .cells #[.int .i64 t288, .int .i64 t289] 50 (0, 0)) (by exact BK290.out) hb)
                            have n6_ := Aside0.mk (below_step (by repeat (first | (with_reducible first | exact HB.out | apply below_alloc | apply pw_below_drewN | apply below_drew1 | refine below_set ?_ GE276.out | refine below_set ?_ GE277.out | refine below_set ?_ GE280.out | refine below_set ?_ GE285.out | refine below_set ?_ GE290.out) | exact HB.out)) hb)
                            have n7_ := Aside0.mk (hbox)
                            have n8_ := Aside0.mk ((by rw [hg]; exact (below_size (by repeat (first | (with_reducible first | exact HB.out | apply below_alloc | apply pw_below_drewN | apply below_drew1 | refine below_set ?_ GE276.out | refine below_set ?_ GE277.out | refine below_set ?_ GE280.out | refine below_set ?_ GE285.out | refine below_set ?_ GE290.out) | exact HB.out))) : w.heap.size ≤ gb301))
                            have n9_ := Aside0.mk ((by rw [hg]; exact (below_size (by repeat (first | (with_reducible first | exact HB.out | apply below_alloc | apply pw_below_drewN | apply below_drew1 | refine below_set ?_ GE276.out | refine below_set ?_ GE277.out | refine below_set ?_ GE280.out | refine below_set ?_ GE285.out | refine below_set ?_ GE290.out) | exact HB.out))) : w.heap.size ≤ gb301))
                            have n10_ := Aside0.mk ((by rw [hg]; exact Nat.ne_of_lt (blk_lt (g := gb276) (o := .cells #[.int .i64 t272, .int .i64 t273] 50 (0, 0)) (by exact BK276.out)) : gb276 ≠ gb301))
                            have n11_ := Aside0.mk ((by rw [hg]; exact Nat.ne_of_gt (blk_lt (g := gb276) (o := .cells #[.int .i64 t272, .int .i64 t273] 50 (0, 0)) (by exact BK276.out)) : gb301 ≠ gb276))
                            have n12_ := Aside0.mk ((by rw [hg]; exact Nat.ne_of_lt (blk_lt (g := gb277) (o := .cells #[.int .i64 t274, .int .i64 t275] 50 (0, 0)) (by exact BK277.out)) : gb277 ≠ gb301))
                            have n13_ := Aside0.mk ((by rw [hg]; exact Nat.ne_of_gt (blk_lt (g := gb277) (o := .cells #[.int .i64 t274, .int .i64 t275] 50 (0, 0)) (by exact BK277.out)) : gb301 ≠ gb277))
                            have n14_ := Aside0.mk ((by rw [hg]; exact Nat.ne_of_lt (blk_lt (g := gb280) (o := .cells #[.int .i64 t278, .int .i64 t279] 50 (0, 0)) (by exact BK280.out)) : gb280 ≠ gb301))
                            have n15_ := Aside0.mk ((by rw [hg]; exact Nat.ne_of_gt (blk_lt (g := gb280) (o := .cells #[.int .i64 t278, .int .i64 t279] 50 (0, 0)) (by exact BK280.out)) : gb301 ≠ gb280))
                            have n16_ := Aside0.mk ((by rw [hg]; exact Nat.ne_of_lt (blk_lt (g := gb285) (o := .cells #[.int .i64 t283, .int .i64 t284] 50 (0, 0)) (by exact BK285.out)) : gb285 ≠ gb301))
                            have n17_ := Aside0.mk ((by rw [hg]; exact Nat.ne_of_gt (blk_lt (g := gb285) (o := .cells #[.int .i64 t283, .int .i64 t284] 50 (0, 0)) (by exact BK285.out)) : gb301 ≠ gb285))
                            have n18_ := Aside0.mk ((by rw [hg]; exact Nat.ne_of_lt (blk_lt (g := gb290) (o := .cells #[.int .i64 t288, .int .i64 t289] 50 (0, 0)) (by exact BK290.out)) : gb290 ≠ gb301))
                            have n19_ := Aside0.mk ((by rw [hg]; exact Nat.ne_of_gt (blk_lt (g := gb290) (o := .cells #[.int .i64 t288, .int .i64 t289] 50 (0, 0)) (by exact BK290.out)) : gb301 ≠ gb290))
                            clear HO293
                            clear BK276
                            clear BK277
                            clear BK280
                            clear BK285
                            clear BK290
                            clear HB
                            have HO293 := n0_
                            have BK276 := n1_
                            have BK277 := n2_
                            have BK280 := n3_
                            have BK285 := n4_
                            have BK290 := n5_
                            have HB := n6_
                            have BK301 := n7_
                            have GW301 := n8_
                            have GE301 := n9_
                            have NB276_301 := n10_
                            have NB301_276 := n11_
                            have NB277_301 := n12_
                            have NB301_277 := n13_
                            have NB280_301 := n14_
                            have NB301_280 := n15_
                            have NB285_301 := n16_
                            have NB301_285 := n17_
                            have NB290_301 := n18_
                            have NB301_290 := n19_
                            clear n0_ n1_ n2_ n3_ n4_ n5_ n6_ n7_ n8_ n9_ n10_ n11_ n12_ n13_ n14_ n15_ n16_ n17_ n18_ n19_
                            clear hb hbox hg
                            refine hK.out _ _ ⟨(blk_cell BK276.out 0).trans rfl, (blk_cell BK276.out 1).trans rfl⟩ (fun hHeld => ?_)
                            clear hK K
                            refine norm_ (a' := ?_) ?_ ?_
                            rotate_left
                            · show Act.put _ (some 9) _ = _
                              simp only [Act.put, List.setIfInBounds_toArray, List.set_cons_zero, List.set_cons_succ, i64_w, i32_w]
                              rfl
                            exact norm_ (by simp only [putAll, Act.put, List.setIfInBounds_toArray, List.set_cons_zero, List.set_cons_succ]) (hCont (gb301) _ ⟨hHeld, (by (with_reducible repeat (first | apply Kd.R_alloc | apply Kd.R_drewN | apply Kd.R_drew)); exact HO293.out), (by exact BK276.out), (by exact BK277.out), (by exact BK280.out), (by exact BK285.out), (by exact BK290.out), (by exact BK301.out), GW301.out, GE301.out, NB276_301.out, NB301_276.out, NB277_301.out, NB301_277.out, NB280_301.out, NB301_280.out, NB285_301.out, NB301_285.out, NB290_301.out, NB301_290.out, (by repeat (first | (with_reducible first | exact HB.out | apply below_alloc | apply pw_below_drewN | apply below_drew1 | refine below_set ?_ GE276.out | refine below_set ?_ GE277.out | refine below_set ?_ GE280.out | refine below_set ?_ GE285.out | refine below_set ?_ GE290.out | refine below_set ?_ GE301.out) | exact HB.out))⟩)
                          · skip
                            refine box_step ?hg (N := 9) ?hd (cs := #[.int .i64 0, .int .i64 0]) (t := 50) ?hr ?_; (case hd => rfl); (case hg => rfl); (case hr => first | (go_simp; done) | (go_simp; rfl))
                            intro gb301 hg w111 hbox hb
                            have n0_ := Aside0.mk (Kd.R_below (by (with_reducible repeat (first | apply Kd.R_alloc | apply Kd.R_drewN | apply Kd.R_drew)); exact HO293.out) hb)
                            have n1_ := Aside0.mk (blk_below (g := gb276) (o := .cells #[.int .i64 t272, .int .i64 t273] 50 (0, 0)) (by exact BK276.out) hb)
                            have n2_ := Aside0.mk (blk_below (g := gb277) (o := .cells #[.int .i64 t274, .int .i64 t275] 50 (0, 0)) (by exact BK277.out) hb)
                            have n3_ := Aside0.mk (blk_below (g := gb280) (o := .cells #[.int .i64 t278, .int .i64 t279] 50 (0, 0)) (by exact BK280.out) hb)
                            have n4_ := Aside0.mk (blk_below (g := gb285) (o := .cells #[.int .i64 t283, .int .i64 t284] 50 (0, 0)) (by exact BK285.out) hb)
                            have n5_ := Aside0.mk (blk_below (g := gb290) (o := .cells #[.int .i64 t288, .int .i64 t289] 50 (0, 0)) (by exact BK290.out) hb)
                            have n6_ := Aside0.mk (below_step (by repeat (first | (with_reducible first | exact HB.out | apply below_alloc | apply pw_below_drewN | apply below_drew1 | refine below_set ?_ GE276.out | refine below_set ?_ GE277.out | refine below_set ?_ GE280.out | refine below_set ?_ GE285.out | refine below_set ?_ GE290.out) | exact HB.out)) hb)
                            have n7_ := Aside0.mk (hbox)
                            have n8_ := Aside0.mk ((by rw [hg]; exact (below_size (by repeat (first | (with_reducible first | exact HB.out | apply below_alloc | apply pw_below_drewN | apply below_drew1 | refine below_set ?_ GE276.out | refine below_set ?_ GE277.out | refine below_set ?_ GE280.out | refine below_set ?_ GE285.out | refine below_set ?_ GE290.out) | exact HB.out))) : w.heap.size ≤ gb301))
                            have n9_ := Aside0.mk ((by rw [hg]; exact (below_size (by repeat (first | (with_reducible first | exact HB.out | apply below_alloc | apply pw_below_drewN | apply below_drew1 | refine below_set ?_ GE276.out | refine below_set ?_ GE277.out | refine below_set ?_ GE280.out | refine below_set ?_ GE285.out | refine below_set ?_ GE290.out) | exact HB.out))) : w.heap.size ≤ gb301))
                            have n10_ := Aside0.mk ((by rw [hg]; exact Nat.ne_of_lt (blk_lt (g := gb276) (o := .cells #[.int .i64 t272, .int .i64 t273] 50 (0, 0)) (by exact BK276.out)) : gb276 ≠ gb301))
                            have n11_ := Aside0.mk ((by rw [hg]; exact Nat.ne_of_gt (blk_lt (g := gb276) (o := .cells #[.int .i64 t272, .int .i64 t273] 50 (0, 0)) (by exact BK276.out)) : gb301 ≠ gb276))
                            have n12_ := Aside0.mk ((by rw [hg]; exact Nat.ne_of_lt (blk_lt (g := gb277) (o := .cells #[.int .i64 t274, .int .i64 t275] 50 (0, 0)) (by exact BK277.out)) : gb277 ≠ gb301))
                            have n13_ := Aside0.mk ((by rw [hg]; exact Nat.ne_of_gt (blk_lt (g := gb277) (o := .cells #[.int .i64 t274, .int .i64 t275] 50 (0, 0)) (by exact BK277.out)) : gb301 ≠ gb277))
                            have n14_ := Aside0.mk ((by rw [hg]; exact Nat.ne_of_lt (blk_lt (g := gb280) (o := .cells #[.int .i64 t278, .int .i64 t279] 50 (0, 0)) (by exact BK280.out)) : gb280 ≠ gb301))
                            have n15_ := Aside0.mk ((by rw [hg]; exact Nat.ne_of_gt (blk_lt (g := gb280) (o := .cells #[.int .i64 t278, .int .i64 t279] 50 (0, 0)) (by exact BK280.out)) : gb301 ≠ gb280))
                            have n16_ := Aside0.mk ((by rw [hg]; exact Nat.ne_of_lt (blk_lt (g := gb285) (o := .cells #[.int .i64 t283, .int .i64 t284] 50 (0, 0)) (by exact BK285.out)) : gb285 ≠ gb301))
                            have n17_ := Aside0.mk ((by rw [hg]; exact Nat.ne_of_gt (blk_lt (g := gb285) (o := .cells #[.int .i64 t283, .int .i64 t284] 50 (0, 0)) (by exact BK285.out)) : gb301 ≠ gb285))
                            have n18_ := Aside0.mk ((by rw [hg]; exact Nat.ne_of_lt (blk_lt (g := gb290) (o := .cells #[.int .i64 t288, .int .i64 t289] 50 (0, 0)) (by exact BK290.out)) : gb290 ≠ gb301))
                            have n19_ := Aside0.mk ((by rw [hg]; exact Nat.ne_of_gt (blk_lt (g := gb290) (o := .cells #[.int .i64 t288, .int .i64 t289] 50 (0, 0)) (by exact BK290.out)) : gb301 ≠ gb290))
                            clear HO293
                            clear BK276
                            clear BK277
                            clear BK280
                            clear BK285
                            clear BK290
                            clear HB
                            have HO293 := n0_
                            have BK276 := n1_
                            have BK277 := n2_
                            have BK280 := n3_
                            have BK285 := n4_
                            have BK290 := n5_
                            have HB := n6_
                            have BK301 := n7_
                            have GW301 := n8_
                            have GE301 := n9_
                            have NB276_301 := n10_
                            have NB301_276 := n11_
                            have NB277_301 := n12_
                            have NB301_277 := n13_
                            have NB280_301 := n14_
                            have NB301_280 := n15_
                            have NB285_301 := n16_
                            have NB301_285 := n17_
                            have NB290_301 := n18_
                            have NB301_290 := n19_
                            clear n0_ n1_ n2_ n3_ n4_ n5_ n6_ n7_ n8_ n9_ n10_ n11_ n12_ n13_ n14_ n15_ n16_ n17_ n18_ n19_
                            clear hb hbox hg
                            refine hK.out _ _ ⟨(blk_cell BK276.out 0).trans rfl, (blk_cell BK276.out 1).trans rfl⟩ (fun hHeld => ?_)
                            clear hK K
                            refine norm_ (a' := ?_) ?_ ?_
                            rotate_left
                            · show Act.put _ (some 9) _ = _
                              simp only [Act.put, List.setIfInBounds_toArray, List.set_cons_zero, List.set_cons_succ, i64_w, i32_w]
                              rfl
                            refine one_ (i := 5) (N := some 40) #[true, true, true, true, true, true, true, false] rfl rfl (one_of HT_.out (by kernel_rfl)) (by decide) (fun K hK => ?_)
                            refine goes_ Try.func45 (by kernel_rfl) rfl #[.agg #[.int .i64 t295, .int .i64 t296], .agg #[.int .i64 t297, .int .i64 t298]] (by rfl) rfl rfl (by (try simp only [List.map_toArray, List.map_cons, List.map_nil]); first | done | rfl | (simp only [List.length_drop, List.length_take]; rfl)) ?_
                            with_reducible refine (impl_TwoMul.calls t295 t296 t297 t298 t299 t300 _ A14.out).mono ?_
                            rintro e w112 ⟨rfl, hb⟩
                            refine ⟨_, rfl, ?_⟩
                            have n0_ := Aside0.mk (Kd.R_below (by (with_reducible repeat (first | apply Kd.R_alloc | apply Kd.R_drewN | apply Kd.R_drew)); exact HO293.out) hb)
                            have n1_ := Aside0.mk (blk_below (g := gb276) (o := .cells #[.int .i64 t272, .int .i64 t273] 50 (0, 0)) (by exact BK276.out) hb)
                            have n2_ := Aside0.mk (blk_below (g := gb277) (o := .cells #[.int .i64 t274, .int .i64 t275] 50 (0, 0)) (by exact BK277.out) hb)
                            have n3_ := Aside0.mk (blk_below (g := gb280) (o := .cells #[.int .i64 t278, .int .i64 t279] 50 (0, 0)) (by exact BK280.out) hb)
                            have n4_ := Aside0.mk (blk_below (g := gb285) (o := .cells #[.int .i64 t283, .int .i64 t284] 50 (0, 0)) (by exact BK285.out) hb)
                            have n5_ := Aside0.mk (blk_below (g := gb290) (o := .cells #[.int .i64 t288, .int .i64 t289] 50 (0, 0)) (by exact BK290.out) hb)
                            have n6_ := Aside0.mk (blk_below (g := gb301) (o := .cells #[.int .i64 0, .int .i64 0] 50 (0, 0)) (by exact BK301.out) hb)
                            have n7_ := Aside0.mk (below_step (by repeat (first | (with_reducible first | exact HB.out | apply below_alloc | apply pw_below_drewN | apply below_drew1 | refine below_set ?_ GE276.out | refine below_set ?_ GE277.out | refine below_set ?_ GE280.out | refine below_set ?_ GE285.out | refine below_set ?_ GE290.out | refine below_set ?_ GE301.out) | exact HB.out)) hb)
                            clear HO293
                            clear BK276
                            clear BK277
                            clear BK280
                            clear BK285
                            clear BK290
                            clear BK301
                            clear HB
                            have HO293 := n0_
                            have BK276 := n1_
                            have BK277 := n2_
                            have BK280 := n3_
                            have BK285 := n4_
                            have BK290 := n5_
                            have BK301 := n6_
                            have HB := n7_
                            clear n0_ n1_ n2_ n3_ n4_ n5_ n6_ n7_
                            (try clear hb)
                            (try clear hb2)
                            (try clear hk)
                            (try clear hi)
                            refine hK.out _ _ ⟨(blk_cell BK276.out 0).trans rfl, (blk_cell BK276.out 1).trans rfl⟩ (fun hHeld => ?_)
                            clear hK K
                            refine norm_ (a' := ?_) ?_ ?_
                            rotate_left
                            · show Act.put _ (some 40) _ = _
                              simp only [Act.put, List.setIfInBounds_toArray, List.set_cons_zero, List.set_cons_succ, i64_w, i32_w]
                              rfl
                            exact norm_ (by simp only [putAll, Act.put, List.setIfInBounds_toArray, List.set_cons_zero, List.set_cons_succ]) (hCont (gb301) _ ⟨hHeld, (by (with_reducible repeat (first | apply Kd.R_alloc | apply Kd.R_drewN | apply Kd.R_drew)); exact HO293.out), (by exact BK276.out), (by exact BK277.out), (by exact BK280.out), (by exact BK285.out), (by exact BK290.out), (by exact BK301.out), GW301.out, GE301.out, NB276_301.out, NB301_276.out, NB277_301.out, NB301_277.out, NB280_301.out, NB301_280.out, NB285_301.out, NB301_285.out, NB290_301.out, NB301_290.out, (by repeat (first | (with_reducible first | exact HB.out | apply below_alloc | apply pw_below_drewN | apply below_drew1 | refine below_set ?_ GE276.out | refine below_set ?_ GE277.out | refine below_set ?_ GE280.out | refine below_set ?_ GE285.out | refine below_set ?_ GE290.out | refine below_set ?_ GE301.out) | exact HB.out))⟩)
                        · skip
                          refine box_step ?hg (N := 9) ?hd (cs := #[.int .i64 0, .int .i64 0]) (t := 50) ?hr ?_; (case hd => rfl); (case hg => rfl); (case hr => first | (go_simp; done) | (go_simp; rfl))
                          intro gb301 hg w110 hbox hb
                          have n0_ := Aside0.mk (Kd.R_below (by (with_reducible repeat (first | apply Kd.R_alloc | apply Kd.R_drewN | apply Kd.R_drew)); exact HO293.out) hb)
                          have n1_ := Aside0.mk (blk_below (g := gb276) (o := .cells #[.int .i64 t272, .int .i64 t273] 50 (0, 0)) (by exact BK276.out) hb)
                          have n2_ := Aside0.mk (blk_below (g := gb277) (o := .cells #[.int .i64 t274, .int .i64 t275] 50 (0, 0)) (by exact BK277.out) hb)
                          have n3_ := Aside0.mk (blk_below (g := gb280) (o := .cells #[.int .i64 t278, .int .i64 t279] 50 (0, 0)) (by exact BK280.out) hb)
                          have n4_ := Aside0.mk (blk_below (g := gb285) (o := .cells #[.int .i64 t283, .int .i64 t284] 50 (0, 0)) (by exact BK285.out) hb)
                          have n5_ := Aside0.mk (blk_below (g := gb290) (o := .cells #[.int .i64 t288, .int .i64 t289] 50 (0, 0)) (by exact BK290.out) hb)
                          have n6_ := Aside0.mk (below_step (by repeat (first | (with_reducible first | exact HB.out | apply below_alloc | apply pw_below_drewN | apply below_drew1 | refine below_set ?_ GE276.out | refine below_set ?_ GE277.out | refine below_set ?_ GE280.out | refine below_set ?_ GE285.out | refine below_set ?_ GE290.out) | exact HB.out)) hb)
                          have n7_ := Aside0.mk (hbox)
                          have n8_ := Aside0.mk ((by rw [hg]; exact (below_size (by repeat (first | (with_reducible first | exact HB.out | apply below_alloc | apply pw_below_drewN | apply below_drew1 | refine below_set ?_ GE276.out | refine below_set ?_ GE277.out | refine below_set ?_ GE280.out | refine below_set ?_ GE285.out | refine below_set ?_ GE290.out) | exact HB.out))) : w.heap.size ≤ gb301))
                          have n9_ := Aside0.mk ((by rw [hg]; exact (below_size (by repeat (first | (with_reducible first | exact HB.out | apply below_alloc | apply pw_below_drewN | apply below_drew1 | refine below_set ?_ GE276.out | refine below_set ?_ GE277.out | refine below_set ?_ GE280.out | refine below_set ?_ GE285.out | refine below_set ?_ GE290.out) | exact HB.out))) : w.heap.size ≤ gb301))
                          have n10_ := Aside0.mk ((by rw [hg]; exact Nat.ne_of_lt (blk_lt (g := gb276) (o := .cells #[.int .i64 t272, .int .i64 t273] 50 (0, 0)) (by exact BK276.out)) : gb276 ≠ gb301))
                          have n11_ := Aside0.mk ((by rw [hg]; exact Nat.ne_of_gt (blk_lt (g := gb276) (o := .cells #[.int .i64 t272, .int .i64 t273] 50 (0, 0)) (by exact BK276.out)) : gb301 ≠ gb276))
                          have n12_ := Aside0.mk ((by rw [hg]; exact Nat.ne_of_lt (blk_lt (g := gb277) (o := .cells #[.int .i64 t274, .int .i64 t275] 50 (0, 0)) (by exact BK277.out)) : gb277 ≠ gb301))
                          have n13_ := Aside0.mk ((by rw [hg]; exact Nat.ne_of_gt (blk_lt (g := gb277) (o := .cells #[.int .i64 t274, .int .i64 t275] 50 (0, 0)) (by exact BK277.out)) : gb301 ≠ gb277))
                          have n14_ := Aside0.mk ((by rw [hg]; exact Nat.ne_of_lt (blk_lt (g := gb280) (o := .cells #[.int .i64 t278, .int .i64 t279] 50 (0, 0)) (by exact BK280.out)) : gb280 ≠ gb301))
                          have n15_ := Aside0.mk ((by rw [hg]; exact Nat.ne_of_gt (blk_lt (g := gb280) (o := .cells #[.int .i64 t278, .int .i64 t279] 50 (0, 0)) (by exact BK280.out)) : gb301 ≠ gb280))
                          have n16_ := Aside0.mk ((by rw [hg]; exact Nat.ne_of_lt (blk_lt (g := gb285) (o := .cells #[.int .i64 t283, .int .i64 t284] 50 (0, 0)) (by exact BK285.out)) : gb285 ≠ gb301))
                          have n17_ := Aside0.mk ((by rw [hg]; exact Nat.ne_of_gt (blk_lt (g := gb285) (o := .cells #[.int .i64 t283, .int .i64 t284] 50 (0, 0)) (by exact BK285.out)) : gb301 ≠ gb285))
                          have n18_ := Aside0.mk ((by rw [hg]; exact Nat.ne_of_lt (blk_lt (g := gb290) (o := .cells #[.int .i64 t288, .int .i64 t289] 50 (0, 0)) (by exact BK290.out)) : gb290 ≠ gb301))
                          have n19_ := Aside0.mk ((by rw [hg]; exact Nat.ne_of_gt (blk_lt (g := gb290) (o := .cells #[.int .i64 t288, .int .i64 t289] 50 (0, 0)) (by exact BK290.out)) : gb301 ≠ gb290))
                          clear HO293
                          clear BK276
                          clear BK277
                          clear BK280
                          clear BK285
                          clear BK290
                          clear HB
                          have HO293 := n0_
                          have BK276 := n1_
                          have BK277 := n2_
                          have BK280 := n3_
                          have BK285 := n4_
                          have BK290 := n5_
                          have HB := n6_
                          have BK301 := n7_
                          have GW301 := n8_
                          have GE301 := n9_
                          have NB276_301 := n10_
                          have NB301_276 := n11_
                          have NB277_301 := n12_
                          have NB301_277 := n13_
                          have NB280_301 := n14_
                          have NB301_280 := n15_
                          have NB285_301 := n16_
                          have NB301_285 := n17_
                          have NB290_301 := n18_
                          have NB301_290 := n19_
                          clear n0_ n1_ n2_ n3_ n4_ n5_ n6_ n7_ n8_ n9_ n10_ n11_ n12_ n13_ n14_ n15_ n16_ n17_ n18_ n19_
                          clear hb hbox hg
                          refine hK.out _ _ ⟨(blk_cell BK276.out 0).trans rfl, (blk_cell BK276.out 1).trans rfl⟩ (fun hHeld => ?_)
                          clear hK K
                          refine norm_ (a' := ?_) ?_ ?_
                          rotate_left
                          · show Act.put _ (some 9) _ = _
                            simp only [Act.put, List.setIfInBounds_toArray, List.set_cons_zero, List.set_cons_succ, i64_w, i32_w]
                            rfl
                          refine one_ (i := 4) (N := some 39) #[true, true, true, true, true, false, true, false] rfl rfl (one_of HT_.out (by kernel_rfl)) (by decide) (fun K hK => ?_)
                          refine goes_ Try.func48 (by kernel_rfl) rfl #[.agg #[.int .i64 t272, .int .i64 t273], .int .i64 3] (by rfl) rfl rfl (by (try simp only [List.map_toArray, List.map_cons, List.map_nil]); first | done | rfl | (simp only [List.length_drop, List.length_take]; rfl)) ?_
                          with_reducible refine (impl_TwoPow.calls k t272 t273 3 t297 t298 _ A13.out).mono ?_
                          rintro e w111 ⟨rfl, hb⟩
                          refine ⟨_, rfl, ?_⟩
                          have n0_ := Aside0.mk (Kd.R_below (by (with_reducible repeat (first | apply Kd.R_alloc | apply Kd.R_drewN | apply Kd.R_drew)); exact HO293.out) hb)
                          have n1_ := Aside0.mk (blk_below (g := gb276) (o := .cells #[.int .i64 t272, .int .i64 t273] 50 (0, 0)) (by exact BK276.out) hb)
                          have n2_ := Aside0.mk (blk_below (g := gb277) (o := .cells #[.int .i64 t274, .int .i64 t275] 50 (0, 0)) (by exact BK277.out) hb)
                          have n3_ := Aside0.mk (blk_below (g := gb280) (o := .cells #[.int .i64 t278, .int .i64 t279] 50 (0, 0)) (by exact BK280.out) hb)
                          have n4_ := Aside0.mk (blk_below (g := gb285) (o := .cells #[.int .i64 t283, .int .i64 t284] 50 (0, 0)) (by exact BK285.out) hb)
                          have n5_ := Aside0.mk (blk_below (g := gb290) (o := .cells #[.int .i64 t288, .int .i64 t289] 50 (0, 0)) (by exact BK290.out) hb)
                          have n6_ := Aside0.mk (blk_below (g := gb301) (o := .cells #[.int .i64 0, .int .i64 0] 50 (0, 0)) (by exact BK301.out) hb)
                          have n7_ := Aside0.mk (below_step (by repeat (first | (with_reducible first | exact HB.out | apply below_alloc | apply pw_below_drewN | apply below_drew1 | refine below_set ?_ GE276.out | refine below_set ?_ GE277.out | refine below_set ?_ GE280.out | refine below_set ?_ GE285.out | refine below_set ?_ GE290.out | refine below_set ?_ GE301.out) | exact HB.out)) hb)
                          clear HO293
                          clear BK276
                          clear BK277
                          clear BK280
                          clear BK285
                          clear BK290
                          clear BK301
                          clear HB
                          have HO293 := n0_
                          have BK276 := n1_
                          have BK277 := n2_
                          have BK280 := n3_
                          have BK285 := n4_
                          have BK290 := n5_
                          have BK301 := n6_
                          have HB := n7_
                          clear n0_ n1_ n2_ n3_ n4_ n5_ n6_ n7_
                          (try clear hb)
                          (try clear hb2)
                          (try clear hk)
                          (try clear hi)
                          refine hK.out _ _ ⟨(blk_cell BK276.out 0).trans rfl, (blk_cell BK276.out 1).trans rfl⟩ (fun hHeld => ?_)
                          clear hK K
                          refine norm_ (a' := ?_) ?_ ?_
                          rotate_left
                          · show Act.put _ (some 39) _ = _
                            simp only [Act.put, List.setIfInBounds_toArray, List.set_cons_zero, List.set_cons_succ, i64_w, i32_w]
                            rfl
                          refine one_ (i := 5) (N := some 40) #[true, true, true, true, true, true, true, false] rfl rfl (one_of HT_.out (by kernel_rfl)) (by decide) (fun K hK => ?_)
                          refine goes_ Try.func45 (by kernel_rfl) rfl #[.agg #[.int .i64 t295, .int .i64 t296], .agg #[.int .i64 t297, .int .i64 t298]] (by rfl) rfl rfl (by (try simp only [List.map_toArray, List.map_cons, List.map_nil]); first | done | rfl | (simp only [List.length_drop, List.length_take]; rfl)) ?_
                          with_reducible refine (impl_TwoMul.calls t295 t296 t297 t298 t299 t300 _ A14.out).mono ?_
                          rintro e w112 ⟨rfl, hb⟩
                          refine ⟨_, rfl, ?_⟩
                          have n0_ := Aside0.mk (Kd.R_below (by (with_reducible repeat (first | apply Kd.R_alloc | apply Kd.R_drewN | apply Kd.R_drew)); exact HO293.out) hb)
                          have n1_ := Aside0.mk (blk_below (g := gb276) (o := .cells #[.int .i64 t272, .int .i64 t273] 50 (0, 0)) (by exact BK276.out) hb)
                          have n2_ := Aside0.mk (blk_below (g := gb277) (o := .cells #[.int .i64 t274, .int .i64 t275] 50 (0, 0)) (by exact BK277.out) hb)
                          have n3_ := Aside0.mk (blk_below (g := gb280) (o := .cells #[.int .i64 t278, .int .i64 t279] 50 (0, 0)) (by exact BK280.out) hb)
                          have n4_ := Aside0.mk (blk_below (g := gb285) (o := .cells #[.int .i64 t283, .int .i64 t284] 50 (0, 0)) (by exact BK285.out) hb)
                          have n5_ := Aside0.mk (blk_below (g := gb290) (o := .cells #[.int .i64 t288, .int .i64 t289] 50 (0, 0)) (by exact BK290.out) hb)
                          have n6_ := Aside0.mk (blk_below (g := gb301) (o := .cells #[.int .i64 0, .int .i64 0] 50 (0, 0)) (by exact BK301.out) hb)
                          have n7_ := Aside0.mk (below_step (by repeat (first | (with_reducible first | exact HB.out | apply below_alloc | apply pw_below_drewN | apply below_drew1 | refine below_set ?_ GE276.out | refine below_set ?_ GE277.out | refine below_set ?_ GE280.out | refine below_set ?_ GE285.out | refine below_set ?_ GE290.out | refine below_set ?_ GE301.out) | exact HB.out)) hb)
                          clear HO293
                          clear BK276
                          clear BK277
                          clear BK280
                          clear BK285
                          clear BK290
                          clear BK301
                          clear HB
                          have HO293 := n0_
                          have BK276 := n1_
                          have BK277 := n2_
                          have BK280 := n3_
                          have BK285 := n4_
                          have BK290 := n5_
                          have BK301 := n6_
                          have HB := n7_
                          clear n0_ n1_ n2_ n3_ n4_ n5_ n6_ n7_
                          (try clear hb)
                          (try clear hb2)
                          (try clear hk)
                          (try clear hi)
                          refine hK.out _ _ ⟨(blk_cell BK276.out 0).trans rfl, (blk_cell BK276.out 1).trans rfl⟩ (fun hHeld => ?_)
                          clear hK K
                          refine norm_ (a' := ?_) ?_ ?_
                          rotate_left
                          · show Act.put _ (some 40) _ = _
                            simp only [Act.put, List.setIfInBounds_toArray, List.set_cons_zero, List.set_cons_succ, i64_w, i32_w]
                            rfl
                          exact norm_ (by simp only [putAll, Act.put, List.setIfInBounds_toArray, List.set_cons_zero, List.set_cons_succ]) (hCont (gb301) _ ⟨hHeld, (by (with_reducible repeat (first | apply Kd.R_alloc | apply Kd.R_drewN | apply Kd.R_drew)); exact HO293.out), (by exact BK276.out), (by exact BK277.out), (by exact BK280.out), (by exact BK285.out), (by exact BK290.out), (by exact BK301.out), GW301.out, GE301.out, NB276_301.out, NB301_276.out, NB277_301.out, NB301_277.out, NB280_301.out, NB301_280.out, NB285_301.out, NB301_285.out, NB290_301.out, NB301_290.out, (by repeat (first | (with_reducible first | exact HB.out | apply below_alloc | apply pw_below_drewN | apply below_drew1 | refine below_set ?_ GE276.out | refine below_set ?_ GE277.out | refine below_set ?_ GE280.out | refine below_set ?_ GE285.out | refine below_set ?_ GE290.out | refine below_set ?_ GE301.out) | exact HB.out))⟩)
                      · skip
                        refine box_step ?hg (N := 9) ?hd (cs := #[.int .i64 0, .int .i64 0]) (t := 50) ?hr ?_; (case hd => rfl); (case hg => rfl); (case hr => first | (go_simp; done) | (go_simp; rfl))
                        intro gb301 hg w109 hbox hb
                        have n0_ := Aside0.mk (Kd.R_below (by (with_reducible repeat (first | apply Kd.R_alloc | apply Kd.R_drewN | apply Kd.R_drew)); exact HO293.out) hb)
                        have n1_ := Aside0.mk (blk_below (g := gb276) (o := .cells #[.int .i64 t272, .int .i64 t273] 50 (0, 0)) (by exact BK276.out) hb)
                        have n2_ := Aside0.mk (blk_below (g := gb277) (o := .cells #[.int .i64 t274, .int .i64 t275] 50 (0, 0)) (by exact BK277.out) hb)
                        have n3_ := Aside0.mk (blk_below (g := gb280) (o := .cells #[.int .i64 t278, .int .i64 t279] 50 (0, 0)) (by exact BK280.out) hb)
                        have n4_ := Aside0.mk (blk_below (g := gb285) (o := .cells #[.int .i64 t283, .int .i64 t284] 50 (0, 0)) (by exact BK285.out) hb)
                        have n5_ := Aside0.mk (blk_below (g := gb290) (o := .cells #[.int .i64 t288, .int .i64 t289] 50 (0, 0)) (by exact BK290.out) hb)
                        have n6_ := Aside0.mk (below_step (by repeat (first | (with_reducible first | exact HB.out | apply below_alloc | apply pw_below_drewN | apply below_drew1 | refine below_set ?_ GE276.out | refine below_set ?_ GE277.out | refine below_set ?_ GE280.out | refine below_set ?_ GE285.out | refine below_set ?_ GE290.out) | exact HB.out)) hb)
                        have n7_ := Aside0.mk (hbox)
                        have n8_ := Aside0.mk ((by rw [hg]; exact (below_size (by repeat (first | (with_reducible first | exact HB.out | apply below_alloc | apply pw_below_drewN | apply below_drew1 | refine below_set ?_ GE276.out | refine below_set ?_ GE277.out | refine below_set ?_ GE280.out | refine below_set ?_ GE285.out | refine below_set ?_ GE290.out) | exact HB.out))) : w.heap.size ≤ gb301))
                        have n9_ := Aside0.mk ((by rw [hg]; exact (below_size (by repeat (first | (with_reducible first | exact HB.out | apply below_alloc | apply pw_below_drewN | apply below_drew1 | refine below_set ?_ GE276.out | refine below_set ?_ GE277.out | refine below_set ?_ GE280.out | refine below_set ?_ GE285.out | refine below_set ?_ GE290.out) | exact HB.out))) : w.heap.size ≤ gb301))
                        have n10_ := Aside0.mk ((by rw [hg]; exact Nat.ne_of_lt (blk_lt (g := gb276) (o := .cells #[.int .i64 t272, .int .i64 t273] 50 (0, 0)) (by exact BK276.out)) : gb276 ≠ gb301))
                        have n11_ := Aside0.mk ((by rw [hg]; exact Nat.ne_of_gt (blk_lt (g := gb276) (o := .cells #[.int .i64 t272, .int .i64 t273] 50 (0, 0)) (by exact BK276.out)) : gb301 ≠ gb276))
                        have n12_ := Aside0.mk ((by rw [hg]; exact Nat.ne_of_lt (blk_lt (g := gb277) (o := .cells #[.int .i64 t274, .int .i64 t275] 50 (0, 0)) (by exact BK277.out)) : gb277 ≠ gb301))
                        have n13_ := Aside0.mk ((by rw [hg]; exact Nat.ne_of_gt (blk_lt (g := gb277) (o := .cells #[.int .i64 t274, .int .i64 t275] 50 (0, 0)) (by exact BK277.out)) : gb301 ≠ gb277))
                        have n14_ := Aside0.mk ((by rw [hg]; exact Nat.ne_of_lt (blk_lt (g := gb280) (o := .cells #[.int .i64 t278, .int .i64 t279] 50 (0, 0)) (by exact BK280.out)) : gb280 ≠ gb301))
                        have n15_ := Aside0.mk ((by rw [hg]; exact Nat.ne_of_gt (blk_lt (g := gb280) (o := .cells #[.int .i64 t278, .int .i64 t279] 50 (0, 0)) (by exact BK280.out)) : gb301 ≠ gb280))
                        have n16_ := Aside0.mk ((by rw [hg]; exact Nat.ne_of_lt (blk_lt (g := gb285) (o := .cells #[.int .i64 t283, .int .i64 t284] 50 (0, 0)) (by exact BK285.out)) : gb285 ≠ gb301))
                        have n17_ := Aside0.mk ((by rw [hg]; exact Nat.ne_of_gt (blk_lt (g := gb285) (o := .cells #[.int .i64 t283, .int .i64 t284] 50 (0, 0)) (by exact BK285.out)) : gb301 ≠ gb285))
                        have n18_ := Aside0.mk ((by rw [hg]; exact Nat.ne_of_lt (blk_lt (g := gb290) (o := .cells #[.int .i64 t288, .int .i64 t289] 50 (0, 0)) (by exact BK290.out)) : gb290 ≠ gb301))
                        have n19_ := Aside0.mk ((by rw [hg]; exact Nat.ne_of_gt (blk_lt (g := gb290) (o := .cells #[.int .i64 t288, .int .i64 t289] 50 (0, 0)) (by exact BK290.out)) : gb301 ≠ gb290))
                        clear HO293
                        clear BK276
                        clear BK277
                        clear BK280
                        clear BK285
                        clear BK290
                        clear HB
                        have HO293 := n0_
                        have BK276 := n1_
                        have BK277 := n2_
                        have BK280 := n3_
                        have BK285 := n4_
                        have BK290 := n5_
                        have HB := n6_
                        have BK301 := n7_
                        have GW301 := n8_
                        have GE301 := n9_
                        have NB276_301 := n10_
                        have NB301_276 := n11_
                        have NB277_301 := n12_
                        have NB301_277 := n13_
                        have NB280_301 := n14_
                        have NB301_280 := n15_
                        have NB285_301 := n16_
                        have NB301_285 := n17_
                        have NB290_301 := n18_
                        have NB301_290 := n19_
                        clear n0_ n1_ n2_ n3_ n4_ n5_ n6_ n7_ n8_ n9_ n10_ n11_ n12_ n13_ n14_ n15_ n16_ n17_ n18_ n19_
                        clear hb hbox hg
                        refine hK.out _ _ ⟨(blk_cell BK276.out 0).trans rfl, (blk_cell BK276.out 1).trans rfl⟩ (fun hHeld => ?_)
                        clear hK K
                        refine norm_ (a' := ?_) ?_ ?_
                        rotate_left
                        · show Act.put _ (some 9) _ = _
                          simp only [Act.put, List.setIfInBounds_toArray, List.set_cons_zero, List.set_cons_succ, i64_w, i32_w]
                          rfl
                        refine one_ (i := 2) (N := some 37) #[true, true, true, true, false, false, true, false] rfl rfl (one_of HT_.out (by kernel_rfl)) (by decide) (fun K hK => ?_)
                        refine goes_ Try.func48 (by kernel_rfl) rfl #[.agg #[.int .i64 t272, .int .i64 t273], .int .i64 (Int.tmod (rd t291 0) 40)] (by rfl) rfl rfl (by (try simp only [List.map_toArray, List.map_cons, List.map_nil]); first | done | rfl | (simp only [List.length_drop, List.length_take]; rfl)) ?_
                        with_reducible refine (impl_TwoPow.calls k t272 t273 (Int.tmod (rd t291 0) 40) t295 t296 _ A12.out).mono ?_
                        rintro e w110 ⟨rfl, hb⟩
                        refine ⟨_, rfl, ?_⟩
                        have n0_ := Aside0.mk (Kd.R_below (by (with_reducible repeat (first | apply Kd.R_alloc | apply Kd.R_drewN | apply Kd.R_drew)); exact HO293.out) hb)
                        have n1_ := Aside0.mk (blk_below (g := gb276) (o := .cells #[.int .i64 t272, .int .i64 t273] 50 (0, 0)) (by exact BK276.out) hb)
                        have n2_ := Aside0.mk (blk_below (g := gb277) (o := .cells #[.int .i64 t274, .int .i64 t275] 50 (0, 0)) (by exact BK277.out) hb)
                        have n3_ := Aside0.mk (blk_below (g := gb280) (o := .cells #[.int .i64 t278, .int .i64 t279] 50 (0, 0)) (by exact BK280.out) hb)
                        have n4_ := Aside0.mk (blk_below (g := gb285) (o := .cells #[.int .i64 t283, .int .i64 t284] 50 (0, 0)) (by exact BK285.out) hb)
                        have n5_ := Aside0.mk (blk_below (g := gb290) (o := .cells #[.int .i64 t288, .int .i64 t289] 50 (0, 0)) (by exact BK290.out) hb)
                        have n6_ := Aside0.mk (blk_below (g := gb301) (o := .cells #[.int .i64 0, .int .i64 0] 50 (0, 0)) (by exact BK301.out) hb)
                        have n7_ := Aside0.mk (below_step (by repeat (first | (with_reducible first | exact HB.out | apply below_alloc | apply pw_below_drewN | apply below_drew1 | refine below_set ?_ GE276.out | refine below_set ?_ GE277.out | refine below_set ?_ GE280.out | refine below_set ?_ GE285.out | refine below_set ?_ GE290.out | refine below_set ?_ GE301.out) | exact HB.out)) hb)
                        clear HO293
                        clear BK276
                        clear BK277
                        clear BK280
                        clear BK285
                        clear BK290
                        clear BK301
                        clear HB
                        have HO293 := n0_
                        have BK276 := n1_
                        have BK277 := n2_
                        have BK280 := n3_
                        have BK285 := n4_
                        have BK290 := n5_
                        have BK301 := n6_
                        have HB := n7_
                        clear n0_ n1_ n2_ n3_ n4_ n5_ n6_ n7_
                        (try clear hb)
                        (try clear hb2)
                        (try clear hk)
                        (try clear hi)
                        refine hK.out _ _ ⟨(blk_cell BK276.out 0).trans rfl, (blk_cell BK276.out 1).trans rfl⟩ (fun hHeld => ?_)
                        clear hK K
                        refine norm_ (a' := ?_) ?_ ?_
                        rotate_left
                        · show Act.put _ (some 37) _ = _
                          simp only [Act.put, List.setIfInBounds_toArray, List.set_cons_zero, List.set_cons_succ, i64_w, i32_w]
                          rfl
                        refine one_ (i := 4) (N := some 39) #[true, true, true, true, true, false, true, false] rfl rfl (one_of HT_.out (by kernel_rfl)) (by decide) (fun K hK => ?_)
                        refine goes_ Try.func48 (by kernel_rfl) rfl #[.agg #[.int .i64 t272, .int .i64 t273], .int .i64 3] (by rfl) rfl rfl (by (try simp only [List.map_toArray, List.map_cons, List.map_nil]); first | done | rfl | (simp only [List.length_drop, List.length_take]; rfl)) ?_
                        with_reducible refine (impl_TwoPow.calls k t272 t273 3 t297 t298 _ A13.out).mono ?_
                        rintro e w111 ⟨rfl, hb⟩
                        refine ⟨_, rfl, ?_⟩
                        have n0_ := Aside0.mk (Kd.R_below (by (with_reducible repeat (first | apply Kd.R_alloc | apply Kd.R_drewN | apply Kd.R_drew)); exact HO293.out) hb)
                        have n1_ := Aside0.mk (blk_below (g := gb276) (o := .cells #[.int .i64 t272, .int .i64 t273] 50 (0, 0)) (by exact BK276.out) hb)
                        have n2_ := Aside0.mk (blk_below (g := gb277) (o := .cells #[.int .i64 t274, .int .i64 t275] 50 (0, 0)) (by exact BK277.out) hb)
                        have n3_ := Aside0.mk (blk_below (g := gb280) (o := .cells #[.int .i64 t278, .int .i64 t279] 50 (0, 0)) (by exact BK280.out) hb)
                        have n4_ := Aside0.mk (blk_below (g := gb285) (o := .cells #[.int .i64 t283, .int .i64 t284] 50 (0, 0)) (by exact BK285.out) hb)
                        have n5_ := Aside0.mk (blk_below (g := gb290) (o := .cells #[.int .i64 t288, .int .i64 t289] 50 (0, 0)) (by exact BK290.out) hb)
                        have n6_ := Aside0.mk (blk_below (g := gb301) (o := .cells #[.int .i64 0, .int .i64 0] 50 (0, 0)) (by exact BK301.out) hb)
                        have n7_ := Aside0.mk (below_step (by repeat (first | (with_reducible first | exact HB.out | apply below_alloc | apply pw_below_drewN | apply below_drew1 | refine below_set ?_ GE276.out | refine below_set ?_ GE277.out | refine below_set ?_ GE280.out | refine below_set ?_ GE285.out | refine below_set ?_ GE290.out | refine below_set ?_ GE301.out) | exact HB.out)) hb)
                        clear HO293
                        clear BK276
                        clear BK277
                        clear BK280
                        clear BK285
                        clear BK290
                        clear BK301
                        clear HB
                        have HO293 := n0_
                        have BK276 := n1_
                        have BK277 := n2_
                        have BK280 := n3_
                        have BK285 := n4_
                        have BK290 := n5_
                        have BK301 := n6_
                        have HB := n7_
                        clear n0_ n1_ n2_ n3_ n4_ n5_ n6_ n7_
                        (try clear hb)
                        (try clear hb2)
                        (try clear hk)
                        (try clear hi)
                        refine hK.out _ _ ⟨(blk_cell BK276.out 0).trans rfl, (blk_cell BK276.out 1).trans rfl⟩ (fun hHeld => ?_)
                        clear hK K
                        refine norm_ (a' := ?_) ?_ ?_
                        rotate_left
                        · show Act.put _ (some 39) _ = _
                          simp only [Act.put, List.setIfInBounds_toArray, List.set_cons_zero, List.set_cons_succ, i64_w, i32_w]
                          rfl
                        refine one_ (i := 5) (N := some 40) #[true, true, true, true, true, true, true, false] rfl rfl (one_of HT_.out (by kernel_rfl)) (by decide) (fun K hK => ?_)
                        refine goes_ Try.func45 (by kernel_rfl) rfl #[.agg #[.int .i64 t295, .int .i64 t296], .agg #[.int .i64 t297, .int .i64 t298]] (by rfl) rfl rfl (by (try simp only [List.map_toArray, List.map_cons, List.map_nil]); first | done | rfl | (simp only [List.length_drop, List.length_take]; rfl)) ?_
                        with_reducible refine (impl_TwoMul.calls t295 t296 t297 t298 t299 t300 _ A14.out).mono ?_
                        rintro e w112 ⟨rfl, hb⟩
                        refine ⟨_, rfl, ?_⟩
                        have n0_ := Aside0.mk (Kd.R_below (by (with_reducible repeat (first | apply Kd.R_alloc | apply Kd.R_drewN | apply Kd.R_drew)); exact HO293.out) hb)
                        have n1_ := Aside0.mk (blk_below (g := gb276) (o := .cells #[.int .i64 t272, .int .i64 t273] 50 (0, 0)) (by exact BK276.out) hb)
                        have n2_ := Aside0.mk (blk_below (g := gb277) (o := .cells #[.int .i64 t274, .int .i64 t275] 50 (0, 0)) (by exact BK277.out) hb)
                        have n3_ := Aside0.mk (blk_below (g := gb280) (o := .cells #[.int .i64 t278, .int .i64 t279] 50 (0, 0)) (by exact BK280.out) hb)
                        have n4_ := Aside0.mk (blk_below (g := gb285) (o := .cells #[.int .i64 t283, .int .i64 t284] 50 (0, 0)) (by exact BK285.out) hb)
                        have n5_ := Aside0.mk (blk_below (g := gb290) (o := .cells #[.int .i64 t288, .int .i64 t289] 50 (0, 0)) (by exact BK290.out) hb)
                        have n6_ := Aside0.mk (blk_below (g := gb301) (o := .cells #[.int .i64 0, .int .i64 0] 50 (0, 0)) (by exact BK301.out) hb)
                        have n7_ := Aside0.mk (below_step (by repeat (first | (with_reducible first | exact HB.out | apply below_alloc | apply pw_below_drewN | apply below_drew1 | refine below_set ?_ GE276.out | refine below_set ?_ GE277.out | refine below_set ?_ GE280.out | refine below_set ?_ GE285.out | refine below_set ?_ GE290.out | refine below_set ?_ GE301.out) | exact HB.out)) hb)
                        clear HO293
                        clear BK276
                        clear BK277
                        clear BK280
                        clear BK285
                        clear BK290
                        clear BK301
                        clear HB
                        have HO293 := n0_
                        have BK276 := n1_
                        have BK277 := n2_
                        have BK280 := n3_
                        have BK285 := n4_
                        have BK290 := n5_
                        have BK301 := n6_
                        have HB := n7_
                        clear n0_ n1_ n2_ n3_ n4_ n5_ n6_ n7_
                        (try clear hb)
                        (try clear hb2)
                        (try clear hk)
                        (try clear hi)
                        refine hK.out _ _ ⟨(blk_cell BK276.out 0).trans rfl, (blk_cell BK276.out 1).trans rfl⟩ (fun hHeld => ?_)
                        clear hK K
                        refine norm_ (a' := ?_) ?_ ?_
                        rotate_left
                        · show Act.put _ (some 40) _ = _
                          simp only [Act.put, List.setIfInBounds_toArray, List.set_cons_zero, List.set_cons_succ, i64_w, i32_w]
                          rfl
                        exact norm_ (by simp only [putAll, Act.put, List.setIfInBounds_toArray, List.set_cons_zero, List.set_cons_succ]) (hCont (gb301) _ ⟨hHeld, (by (with_reducible repeat (first | apply Kd.R_alloc | apply Kd.R_drewN | apply Kd.R_drew)); exact HO293.out), (by exact BK276.out), (by exact BK277.out), (by exact BK280.out), (by exact BK285.out), (by exact BK290.out), (by exact BK301.out), GW301.out, GE301.out, NB276_301.out, NB301_276.out, NB277_301.out, NB301_277.out, NB280_301.out, NB301_280.out, NB285_301.out, NB301_285.out, NB290_301.out, NB301_290.out, (by repeat (first | (with_reducible first | exact HB.out | apply below_alloc | apply pw_below_drewN | apply below_drew1 | refine below_set ?_ GE276.out | refine below_set ?_ GE277.out | refine below_set ?_ GE280.out | refine below_set ?_ GE285.out | refine below_set ?_ GE290.out | refine below_set ?_ GE301.out) | exact HB.out))⟩)
                    rintro gb301 w113 ⟨hS_, h0_, h1_, h2_, h3_, h4_, h5_, h6_, h7_, h8_, h9_, h10_, h11_, h12_, h13_, h14_, h15_, h16_, h17_, h18_, h19_⟩
                    have n0_ : Aside0 (Kd.R (Kd.int .i64) 3 w113 w.heap.size (fun _ => True) (.slice (some ad294) t291.length co107) t291) := ⟨h0_⟩
                    have n1_ : Aside0 (w113.heap[gb276]? = some (.cells #[.int .i64 t272, .int .i64 t273] 50 (0, 0))) := ⟨h1_⟩
                    have n2_ : Aside0 (w113.heap[gb277]? = some (.cells #[.int .i64 t274, .int .i64 t275] 50 (0, 0))) := ⟨h2_⟩
                    have n3_ : Aside0 (w113.heap[gb280]? = some (.cells #[.int .i64 t278, .int .i64 t279] 50 (0, 0))) := ⟨h3_⟩
                    have n4_ : Aside0 (w113.heap[gb285]? = some (.cells #[.int .i64 t283, .int .i64 t284] 50 (0, 0))) := ⟨h4_⟩
                    have n5_ : Aside0 (w113.heap[gb290]? = some (.cells #[.int .i64 t288, .int .i64 t289] 50 (0, 0))) := ⟨h5_⟩
                    have n6_ : Aside0 (w113.heap[gb301]? = some (.cells #[.int .i64 0, .int .i64 0] 50 (0, 0))) := ⟨h6_⟩
                    have n7_ : Aside0 (w.heap.size ≤ gb301) := ⟨h7_⟩
                    have n8_ : Aside0 (w.heap.size ≤ gb301) := ⟨h8_⟩
                    have n9_ : Aside0 (gb276 ≠ gb301) := ⟨h9_⟩
                    have n10_ : Aside0 (gb301 ≠ gb276) := ⟨h10_⟩
                    have n11_ : Aside0 (gb277 ≠ gb301) := ⟨h11_⟩
                    have n12_ : Aside0 (gb301 ≠ gb277) := ⟨h12_⟩
                    have n13_ : Aside0 (gb280 ≠ gb301) := ⟨h13_⟩
                    have n14_ : Aside0 (gb301 ≠ gb280) := ⟨h14_⟩
                    have n15_ : Aside0 (gb285 ≠ gb301) := ⟨h15_⟩
                    have n16_ : Aside0 (gb301 ≠ gb285) := ⟨h16_⟩
                    have n17_ : Aside0 (gb290 ≠ gb301) := ⟨h17_⟩
                    have n18_ : Aside0 (gb301 ≠ gb290) := ⟨h18_⟩
                    have n19_ : Aside0 (Below w.heap.size w w113) := ⟨h19_⟩
                    clear HO293
                    clear BK276
                    clear BK277
                    clear BK280
                    clear BK285
                    clear BK290
                    clear HB
                    clear h0_ h1_ h2_ h3_ h4_ h5_ h6_ h7_ h8_ h9_ h10_ h11_ h12_ h13_ h14_ h15_ h16_ h17_ h18_ h19_
                    have HO293 := n0_
                    have BK276 := n1_
                    have BK277 := n2_
                    have BK280 := n3_
                    have BK285 := n4_
                    have BK290 := n5_
                    have BK301 := n6_
                    have GW301 := n7_
                    have GE301 := n8_
                    have NB276_301 := n9_
                    have NB301_276 := n10_
                    have NB277_301 := n11_
                    have NB301_277 := n12_
                    have NB280_301 := n13_
                    have NB301_280 := n14_
                    have NB285_301 := n15_
                    have NB301_285 := n16_
                    have NB290_301 := n17_
                    have NB301_290 := n18_
                    have HB := n19_
                    clear n0_ n1_ n2_ n3_ n4_ n5_ n6_ n7_ n8_ n9_ n10_ n11_ n12_ n13_ n14_ n15_ n16_ n17_ n18_ n19_
                    have hHeld : w113.cell? ⟨gb276, 0, none⟩ = some (.int .i64 t272) ∧ w113.cell? ⟨gb276, 1, none⟩ = some (.int .i64 t273) := hS_
                    refine norm_ (a' := ?_) ?_ ?_
                    rotate_left
                    · simp only [putAll, Act.put, List.setIfInBounds_toArray, List.set_cons_zero, List.set_cons_succ]
                      rfl
                    refine one_ (i := 7) (N := none) #[true, true, true, true, true, true, true, true] rfl rfl (one_of HT_.out (by kernel_rfl)) (by decide) (fun K hK => ?_)
                    have hs114 : w113.cell? ⟨gb301, 0, none⟩ = some (.int .i64 0) := (blk_cell BK301.out 0).trans rfl
                    have hfs114 := blk_frozen BK301.out 0
                    have hns114_0 := NB276_301.out
                    have hns114_1 := NB277_301.out
                    have hns114_2 := NB280_301.out
                    have hns114_3 := NB285_301.out
                    have hns114_4 := NB290_301.out
                    have hms114_0 := NB301_276.out
                    have hms114_1 := NB301_277.out
                    have hms114_2 := NB301_280.out
                    have hms114_3 := NB301_285.out
                    have hms114_4 := NB301_290.out
                    have hs115 : w113.cell? ⟨gb301, 1, none⟩ = some (.int .i64 0) := (blk_cell BK301.out 1).trans rfl
                    have hfs115 := blk_frozen BK301.out 1
                    have hns115_0 := NB276_301.out
                    have hns115_1 := NB277_301.out
                    have hns115_2 := NB280_301.out
                    have hns115_3 := NB285_301.out
                    have hns115_4 := NB290_301.out
                    have hms115_0 := NB301_276.out
                    have hms115_1 := NB301_277.out
                    have hms115_2 := NB301_280.out
                    have hms115_3 := NB301_285.out
                    have hms115_4 := NB301_290.out
                    refine skip_ (w1 := ?_) (by rfl) rfl ?_ ?_
                    rotate_left
                    · go_simp
                      rfl
                    refine hK.out _ _ ⟨((cell_far (p := ⟨gb301, _, none⟩) NB276_301.out _).trans (((cell_far (p := ⟨gb301, _, none⟩) NB276_301.out _).trans (hHeld.1)))), ((cell_far (p := ⟨gb301, _, none⟩) NB276_301.out _).trans (((cell_far (p := ⟨gb301, _, none⟩) NB276_301.out _).trans (hHeld.2))))⟩ (fun hHeld => ?_)
                    clear hK K
                    refine done_ (done_of HT_.out (by kernel_rfl)) ?_
                    try go_wp2_with (first | ((with_reducible refine gate_callee (f := 49) rfl ?_); refine goesL_ (some 43) rfl rfl Try.func49 (by kernel_rfl) rfl #[.slice A0 l0.length c0] rfl (by (try simp only [List.map_toArray, List.map_cons, List.map_nil]); first | done | rfl | (simp only [List.length_drop, List.length_take]; rfl)) ?_; (with_reducible refine (spec_DrawTwoPow.calls k _ _ l0 t302 t303 t304 _ ?side1 ?side2 A15.out).mono ?_); (case side1 => exact Kd.C_below HR0.out (by repeat (first | (with_reducible first | exact HB.out | apply below_alloc | apply pw_below_drewN | apply below_drew1 | refine below_set ?_ GE276.out | refine below_set ?_ GE277.out | refine below_set ?_ GE280.out | refine below_set ?_ GE285.out | refine below_set ?_ GE290.out | refine below_set ?_ GE301.out) | exact HB.out))); (case side2 => exact HC0.out); rintro e w116 ⟨rfl, hb⟩; refine ⟨_, rfl, ?_⟩; have n0_ := Aside0.mk (Kd.R_below (by (with_reducible repeat (first | apply Kd.R_alloc | apply Kd.R_drewN | apply Kd.R_drew)); exact (Kd.R_mono (Kd.R_far (p := ⟨gb301, 1, none⟩) (Kd.R_far (p := ⟨gb301, 0, none⟩) (Kd.R_types HO293.out BK301.out (by decide)) (fun _ hk => hk.2) (.int .i64 t299)) (fun _ hk => hk.2) (.int .i64 t300)) (fun _ h_ => h_.1))) hb); have n1_ := Aside0.mk (blk_below (g := gb276) (o := .cells #[.int .i64 t272, .int .i64 t273] 50 (0, 0)) (by (with_reducible repeat (first | refine blk_drewN ?_ _ | refine blk_drew ?_ | refine blk_alloc ?_ _)); refine blk_far ?_ NB276_301.out _; (with_reducible repeat (first | refine blk_drewN ?_ _ | refine blk_drew ?_ | refine blk_alloc ?_ _)); refine blk_far ?_ NB276_301.out _; exact BK276.out) hb); have n2_ := Aside0.mk (blk_below (g := gb277) (o := .cells #[.int .i64 t274, .int .i64 t275] 50 (0, 0)) (by (with_reducible repeat (first | refine blk_drewN ?_ _ | refine blk_drew ?_ | refine blk_alloc ?_ _)); refine blk_far ?_ NB277_301.out _; (with_reducible repeat (first | refine blk_drewN ?_ _ | refine blk_drew ?_ | refine blk_alloc ?_ _)); refine blk_far ?_ NB277_301.out _; exact BK277.out) hb); have n3_ := Aside0.mk (blk_below (g := gb280) (o := .cells #[.int .i64 t278, .int .i64 t279] 50 (0, 0)) (by (with_reducible repeat (first | refine blk_drewN ?_ _ | refine blk_drew ?_ | refine blk_alloc ?_ _)); refine blk_far ?_ NB280_301.out _; (with_reducible repeat (first | refine blk_drewN ?_ _ | refine blk_drew ?_ | refine blk_alloc ?_ _)); refine blk_far ?_ NB280_301.out _; exact BK280.out) hb); have n4_ := Aside0.mk (blk_below (g := gb285) (o := .cells #[.int .i64 t283, .int .i64 t284] 50 (0, 0)) (by (with_reducible repeat (first | refine blk_drewN ?_ _ | refine blk_drew ?_ | refine blk_alloc ?_ _)); refine blk_far ?_ NB285_301.out _; (with_reducible repeat (first | refine blk_drewN ?_ _ | refine blk_drew ?_ | refine blk_alloc ?_ _)); refine blk_far ?_ NB285_301.out _; exact BK285.out) hb); have n5_ := Aside0.mk (blk_below (g := gb290) (o := .cells #[.int .i64 t288, .int .i64 t289] 50 (0, 0)) (by (with_reducible repeat (first | refine blk_drewN ?_ _ | refine blk_drew ?_ | refine blk_alloc ?_ _)); refine blk_far ?_ NB290_301.out _; (with_reducible repeat (first | refine blk_drewN ?_ _ | refine blk_drew ?_ | refine blk_alloc ?_ _)); refine blk_far ?_ NB290_301.out _; exact BK290.out) hb); have n6_ := Aside0.mk (blk_below (g := gb301) (o := .cells #[.int .i64 t299, .int .i64 t300] 50 (0, 0)) (by (with_reducible repeat (first | refine blk_drewN ?_ _ | refine blk_drew ?_ | refine blk_alloc ?_ _)); refine blk_put (cs := #[.int .i64 t299, .int .i64 0]) ?_ 1 _ rfl; (with_reducible repeat (first | refine blk_drewN ?_ _ | refine blk_drew ?_ | refine blk_alloc ?_ _)); refine blk_put (cs := #[.int .i64 0, .int .i64 0]) ?_ 0 _ rfl; exact BK301.out) hb); have n7_ := Aside0.mk (below_step (by repeat (first | (with_reducible first | exact HB.out | apply below_alloc | apply pw_below_drewN | apply below_drew1 | refine below_set ?_ GE276.out | refine below_set ?_ GE277.out | refine below_set ?_ GE280.out | refine below_set ?_ GE285.out | refine below_set ?_ GE290.out | refine below_set ?_ GE301.out) | exact HB.out)) hb); clear HO293; clear BK276; clear BK277; clear BK280; clear BK285; clear BK290; clear BK301; clear HB; have HO293 := n0_; have BK276 := n1_; have BK277 := n2_; have BK280 := n3_; have BK285 := n4_; have BK290 := n5_; have BK301 := n6_; have HB := n7_; clear n0_ n1_ n2_ n3_ n4_ n5_ n6_ n7_; (try clear hb); (try clear hb2); (try clear hk); (try clear hi)) | ((with_reducible refine gate_dst (N := 10) rfl ?_); refine box_event ?hg (N := 10) ?hd (cs := #[.int .i64 0, .int .i64 0]) (t := 50) ?hr ?_; (case hd => rfl); (case hg => rfl); (case hr => first | (go_simp; done) | (go_simp; rfl)); intro gb305 hg w117 hbox hb; have n0_ := Aside0.mk (Kd.R_below (by (with_reducible repeat (first | apply Kd.R_alloc | apply Kd.R_drewN | apply Kd.R_drew)); exact HO293.out) hb); have n1_ := Aside0.mk (blk_below (g := gb276) (o := .cells #[.int .i64 t272, .int .i64 t273] 50 (0, 0)) (by exact BK276.out) hb); have n2_ := Aside0.mk (blk_below (g := gb277) (o := .cells #[.int .i64 t274, .int .i64 t275] 50 (0, 0)) (by exact BK277.out) hb); have n3_ := Aside0.mk (blk_below (g := gb280) (o := .cells #[.int .i64 t278, .int .i64 t279] 50 (0, 0)) (by exact BK280.out) hb); have n4_ := Aside0.mk (blk_below (g := gb285) (o := .cells #[.int .i64 t283, .int .i64 t284] 50 (0, 0)) (by exact BK285.out) hb); have n5_ := Aside0.mk (blk_below (g := gb290) (o := .cells #[.int .i64 t288, .int .i64 t289] 50 (0, 0)) (by exact BK290.out) hb); have n6_ := Aside0.mk (blk_below (g := gb301) (o := .cells #[.int .i64 t299, .int .i64 t300] 50 (0, 0)) (by exact BK301.out) hb); have n7_ := Aside0.mk (below_step (by repeat (first | (with_reducible first | exact HB.out | apply below_alloc | apply pw_below_drewN | apply below_drew1 | refine below_set ?_ GE276.out | refine below_set ?_ GE277.out | refine below_set ?_ GE280.out | refine below_set ?_ GE285.out | refine below_set ?_ GE290.out | refine below_set ?_ GE301.out) | exact HB.out)) hb); have n8_ := Aside0.mk (hbox); have n9_ := Aside0.mk ((by rw [hg]; exact (below_size (by repeat (first | (with_reducible first | exact HB.out | apply below_alloc | apply pw_below_drewN | apply below_drew1 | refine below_set ?_ GE276.out | refine below_set ?_ GE277.out | refine below_set ?_ GE280.out | refine below_set ?_ GE285.out | refine below_set ?_ GE290.out | refine below_set ?_ GE301.out) | exact HB.out))) : w.heap.size ≤ gb305)); have n10_ := Aside0.mk ((by rw [hg]; exact (below_size (by repeat (first | (with_reducible first | exact HB.out | apply below_alloc | apply pw_below_drewN | apply below_drew1 | refine below_set ?_ GE276.out | refine below_set ?_ GE277.out | refine below_set ?_ GE280.out | refine below_set ?_ GE285.out | refine below_set ?_ GE290.out | refine below_set ?_ GE301.out) | exact HB.out))) : w.heap.size ≤ gb305)); have n11_ := Aside0.mk ((by rw [hg]; exact Nat.ne_of_lt (blk_lt (g := gb276) (o := .cells #[.int .i64 t272, .int .i64 t273] 50 (0, 0)) (by exact BK276.out)) : gb276 ≠ gb305)); have n12_ := Aside0.mk ((by rw [hg]; exact Nat.ne_of_gt (blk_lt (g := gb276) (o := .cells #[.int .i64 t272, .int .i64 t273] 50 (0, 0)) (by exact BK276.out)) : gb305 ≠ gb276)); have n13_ := Aside0.mk ((by rw [hg]; exact Nat.ne_of_lt (blk_lt (g := gb277) (o := .cells #[.int .i64 t274, .int .i64 t275] 50 (0, 0)) (by exact BK277.out)) : gb277 ≠ gb305)); have n14_ := Aside0.mk ((by rw [hg]; exact Nat.ne_of_gt (blk_lt (g := gb277) (o := .cells #[.int .i64 t274, .int .i64 t275] 50 (0, 0)) (by exact BK277.out)) : gb305 ≠ gb277)); have n15_ := Aside0.mk ((by rw [hg]; exact Nat.ne_of_lt (blk_lt (g := gb280) (o := .cells #[.int .i64 t278, .int .i64 t279] 50 (0, 0)) (by exact BK280.out)) : gb280 ≠ gb305)); have n16_ := Aside0.mk ((by rw [hg]; exact Nat.ne_of_gt (blk_lt (g := gb280) (o := .cells #[.int .i64 t278, .int .i64 t279] 50 (0, 0)) (by exact BK280.out)) : gb305 ≠ gb280)); have n17_ := Aside0.mk ((by rw [hg]; exact Nat.ne_of_lt (blk_lt (g := gb285) (o := .cells #[.int .i64 t283, .int .i64 t284] 50 (0, 0)) (by exact BK285.out)) : gb285 ≠ gb305)); have n18_ := Aside0.mk ((by rw [hg]; exact Nat.ne_of_gt (blk_lt (g := gb285) (o := .cells #[.int .i64 t283, .int .i64 t284] 50 (0, 0)) (by exact BK285.out)) : gb305 ≠ gb285)); have n19_ := Aside0.mk ((by rw [hg]; exact Nat.ne_of_lt (blk_lt (g := gb290) (o := .cells #[.int .i64 t288, .int .i64 t289] 50 (0, 0)) (by exact BK290.out)) : gb290 ≠ gb305)); have n20_ := Aside0.mk ((by rw [hg]; exact Nat.ne_of_gt (blk_lt (g := gb290) (o := .cells #[.int .i64 t288, .int .i64 t289] 50 (0, 0)) (by exact BK290.out)) : gb305 ≠ gb290)); have n21_ := Aside0.mk ((by rw [hg]; exact Nat.ne_of_lt (blk_lt (g := gb301) (o := .cells #[.int .i64 t299, .int .i64 t300] 50 (0, 0)) (by exact BK301.out)) : gb301 ≠ gb305)); have n22_ := Aside0.mk ((by rw [hg]; exact Nat.ne_of_gt (blk_lt (g := gb301) (o := .cells #[.int .i64 t299, .int .i64 t300] 50 (0, 0)) (by exact BK301.out)) : gb305 ≠ gb301)); clear HO293; clear BK276; clear BK277; clear BK280; clear BK285; clear BK290; clear BK301; clear HB; have HO293 := n0_; have BK276 := n1_; have BK277 := n2_; have BK280 := n3_; have BK285 := n4_; have BK290 := n5_; have BK301 := n6_; have HB := n7_; have BK305 := n8_; have GW305 := n9_; have GE305 := n10_; have NB276_305 := n11_; have NB305_276 := n12_; have NB277_305 := n13_; have NB305_277 := n14_; have NB280_305 := n15_; have NB305_280 := n16_; have NB285_305 := n17_; have NB305_285 := n18_; have NB290_305 := n19_; have NB305_290 := n20_; have NB301_305 := n21_; have NB305_301 := n22_; clear n0_ n1_ n2_ n3_ n4_ n5_ n6_ n7_ n8_ n9_ n10_ n11_ n12_ n13_ n14_ n15_ n16_ n17_ n18_ n19_ n20_ n21_ n22_; clear hb hbox hg; have hnb118 := NB305_276.out; have hnc118 := NB276_305.out; have hnb119 := NB305_277.out; have hnc119 := NB277_305.out; have hnb120 := NB305_280.out; have hnc120 := NB280_305.out; have hnb121 := NB305_285.out; have hnc121 := NB285_305.out; have hnb122 := NB305_290.out; have hnc122 := NB290_305.out; have hnb123 := NB305_301.out; have hnc123 := NB301_305.out; have hcz124_0 : w117.cell? ⟨gb305, 0, none⟩ = some (.int .i64 0) := (blk_cell BK305.out 0).trans rfl; have hcz124_1 : w117.cell? ⟨gb305, 1, none⟩ = some (.int .i64 0) := (blk_cell BK305.out 1).trans rfl; have hfz124_0 := blk_frozen BK305.out 0; have hfz124_1 := blk_frozen BK305.out 1))
                    have n0_ : Aside0 (Kd.R (Kd.int .i64) 3 ((w117.setCell ⟨gb305, 0, none⟩ (.int .i64 t302)).setCell ⟨gb305, 1, none⟩ (.int .i64 t303)) w.heap.size (fun _ => True) (.slice (some ad294) t291.length co107) t291) := ⟨by (with_reducible repeat (first | apply Kd.R_alloc | apply Kd.R_drewN | apply Kd.R_drew)); exact Kd.R_mono (Kd.R_far (p := ⟨gb305, 1, none⟩) (Kd.R_far (p := ⟨gb305, 0, none⟩) (Kd.R_types HO293.out BK305.out (by decide)) (fun _ hk => hk.2) (.int .i64 t302)) (fun _ hk => hk.2) (.int .i64 t303)) (fun _ hk => trivial)⟩
                    have n1_ : Aside0 (((w117.setCell ⟨gb305, 0, none⟩ (.int .i64 t302)).setCell ⟨gb305, 1, none⟩ (.int .i64 t303)).heap[gb276]? = some (.cells #[.int .i64 t272, .int .i64 t273] 50 (0, 0))) := ⟨by (with_reducible repeat (first | refine blk_drewN ?_ _ | refine blk_drew ?_ | refine blk_alloc ?_ _)); refine blk_far ?_ NB276_305.out _; (with_reducible repeat (first | refine blk_drewN ?_ _ | refine blk_drew ?_ | refine blk_alloc ?_ _)); refine blk_far ?_ NB276_305.out _; exact BK276.out⟩
                    have n2_ : Aside0 (((w117.setCell ⟨gb305, 0, none⟩ (.int .i64 t302)).setCell ⟨gb305, 1, none⟩ (.int .i64 t303)).heap[gb277]? = some (.cells #[.int .i64 t274, .int .i64 t275] 50 (0, 0))) := ⟨by (with_reducible repeat (first | refine blk_drewN ?_ _ | refine blk_drew ?_ | refine blk_alloc ?_ _)); refine blk_far ?_ NB277_305.out _; (with_reducible repeat (first | refine blk_drewN ?_ _ | refine blk_drew ?_ | refine blk_alloc ?_ _)); refine blk_far ?_ NB277_305.out _; exact BK277.out⟩
                    have n3_ : Aside0 (((w117.setCell ⟨gb305, 0, none⟩ (.int .i64 t302)).setCell ⟨gb305, 1, none⟩ (.int .i64 t303)).heap[gb280]? = some (.cells #[.int .i64 t278, .int .i64 t279] 50 (0, 0))) := ⟨by (with_reducible repeat (first | refine blk_drewN ?_ _ | refine blk_drew ?_ | refine blk_alloc ?_ _)); refine blk_far ?_ NB280_305.out _; (with_reducible repeat (first | refine blk_drewN ?_ _ | refine blk_drew ?_ | refine blk_alloc ?_ _)); refine blk_far ?_ NB280_305.out _; exact BK280.out⟩
                    have n4_ : Aside0 (((w117.setCell ⟨gb305, 0, none⟩ (.int .i64 t302)).setCell ⟨gb305, 1, none⟩ (.int .i64 t303)).heap[gb285]? = some (.cells #[.int .i64 t283, .int .i64 t284] 50 (0, 0))) := ⟨by (with_reducible repeat (first | refine blk_drewN ?_ _ | refine blk_drew ?_ | refine blk_alloc ?_ _)); refine blk_far ?_ NB285_305.out _; (with_reducible repeat (first | refine blk_drewN ?_ _ | refine blk_drew ?_ | refine blk_alloc ?_ _)); refine blk_far ?_ NB285_305.out _; exact BK285.out⟩
                    have n5_ : Aside0 (((w117.setCell ⟨gb305, 0, none⟩ (.int .i64 t302)).setCell ⟨gb305, 1, none⟩ (.int .i64 t303)).heap[gb290]? = some (.cells #[.int .i64 t288, .int .i64 t289] 50 (0, 0))) := ⟨by (with_reducible repeat (first | refine blk_drewN ?_ _ | refine blk_drew ?_ | refine blk_alloc ?_ _)); refine blk_far ?_ NB290_305.out _; (with_reducible repeat (first | refine blk_drewN ?_ _ | refine blk_drew ?_ | refine blk_alloc ?_ _)); refine blk_far ?_ NB290_305.out _; exact BK290.out⟩
                    have n6_ : Aside0 (((w117.setCell ⟨gb305, 0, none⟩ (.int .i64 t302)).setCell ⟨gb305, 1, none⟩ (.int .i64 t303)).heap[gb301]? = some (.cells #[.int .i64 t299, .int .i64 t300] 50 (0, 0))) := ⟨by (with_reducible repeat (first | refine blk_drewN ?_ _ | refine blk_drew ?_ | refine blk_alloc ?_ _)); refine blk_far ?_ NB301_305.out _; (with_reducible repeat (first | refine blk_drewN ?_ _ | refine blk_drew ?_ | refine blk_alloc ?_ _)); refine blk_far ?_ NB301_305.out _; exact BK301.out⟩
                    have n7_ : Aside0 (((w117.setCell ⟨gb305, 0, none⟩ (.int .i64 t302)).setCell ⟨gb305, 1, none⟩ (.int .i64 t303)).heap[gb305]? = some (.cells #[.int .i64 t302, .int .i64 t303] 50 (0, 0))) := ⟨by (with_reducible repeat (first | refine blk_drewN ?_ _ | refine blk_drew ?_ | refine blk_alloc ?_ _)); refine blk_put (cs := #[.int .i64 t302, .int .i64 0]) ?_ 1 _ rfl; (with_reducible repeat (first | refine blk_drewN ?_ _ | refine blk_drew ?_ | refine blk_alloc ?_ _)); refine blk_put (cs := #[.int .i64 0, .int .i64 0]) ?_ 0 _ rfl; exact BK305.out⟩
                    have n8_ : Aside0 (Below w.heap.size w ((w117.setCell ⟨gb305, 0, none⟩ (.int .i64 t302)).setCell ⟨gb305, 1, none⟩ (.int .i64 t303))) := ⟨by repeat (first | (with_reducible first | exact HB.out | apply below_alloc | apply pw_below_drewN | apply below_drew1 | refine below_set ?_ GE276.out | refine below_set ?_ GE277.out | refine below_set ?_ GE280.out | refine below_set ?_ GE285.out | refine below_set ?_ GE290.out | refine below_set ?_ GE301.out | refine below_set ?_ GE305.out) | exact HB.out)⟩
                    (try clear HO293)
                    (try clear BK276)
                    (try clear BK277)
                    (try clear BK280)
                    (try clear BK285)
                    (try clear BK290)
                    (try clear BK301)
                    (try clear BK305)
                    (try clear HB)
                    generalize ((w117.setCell ⟨gb305, 0, none⟩ (.int .i64 t302)).setCell ⟨gb305, 1, none⟩ (.int .i64 t303)) = w125 at n0_ n1_ n2_ n3_ n4_ n5_ n6_ n7_ n8_ ⊢
                    have HO293 := n0_
                    have BK276 := n1_
                    have BK277 := n2_
                    have BK280 := n3_
                    have BK285 := n4_
                    have BK290 := n5_
                    have BK301 := n6_
                    have BK305 := n7_
                    have HB := n8_
                    clear n0_ n1_ n2_ n3_ n4_ n5_ n6_ n7_ n8_
                    have n0_ := Aside0.mk (Kd.R_drew HO293.out)
                    have n1_ := Aside0.mk (blk_drew BK276.out)
                    have n2_ := Aside0.mk (blk_drew BK277.out)
                    have n3_ := Aside0.mk (blk_drew BK280.out)
                    have n4_ := Aside0.mk (blk_drew BK285.out)
                    have n5_ := Aside0.mk (blk_drew BK290.out)
                    have n6_ := Aside0.mk (blk_drew BK301.out)
                    have n7_ := Aside0.mk (blk_drew BK305.out)
                    have n8_ := Aside0.mk (below_drew1 HB.out)
                    clear HO293
                    clear BK276
                    clear BK277
                    clear BK280
                    clear BK285
                    clear BK290
                    clear BK301
                    clear BK305
                    clear HB
                    have HO293 := n0_
                    have BK276 := n1_
                    have BK277 := n2_
                    have BK280 := n3_
                    have BK285 := n4_
                    have BK290 := n5_
                    have BK301 := n6_
                    have BK305 := n7_
                    have HB := n8_
                    clear n0_ n1_ n2_ n3_ n4_ n5_ n6_ n7_ n8_
                    refine start_ (n := 51) (S := fun w' => w'.cell? ⟨gb280, 0, none⟩ = some (.int .i64 t278) ∧ w'.cell? ⟨gb280, 1, none⟩ = some (.int .i64 t279) ∧ w'.cell? ⟨gb277, 0, none⟩ = some (.int .i64 t274) ∧ w'.cell? ⟨gb277, 1, none⟩ = some (.int .i64 t275) ∧ w'.cell? ⟨gb276, 0, none⟩ = some (.int .i64 t272) ∧ w'.cell? ⟨gb276, 1, none⟩ = some (.int .i64 t273) ∧ w'.cell? ⟨gb285, 0, none⟩ = some (.int .i64 t283) ∧ w'.cell? ⟨gb285, 1, none⟩ = some (.int .i64 t284) ∧ w'.cell? ⟨gb290, 0, none⟩ = some (.int .i64 t288) ∧ w'.cell? ⟨gb290, 1, none⟩ = some (.int .i64 t289) ∧ w'.cell? ⟨gb301, 0, none⟩ = some (.int .i64 t299) ∧ w'.cell? ⟨gb301, 1, none⟩ = some (.int .i64 t300) ∧ w'.cell? ⟨gb305, 0, none⟩ = some (.int .i64 t302) ∧ w'.cell? ⟨gb305, 1, none⟩ = some (.int .i64 t303)) (ds := []) #[false, false, false, false, false, false, false, false, false, false, false, false, false, false, false, false, false, false, false, false, false, false, false, false, false, false, false, false, false, false, false, false, false, false, false, false, false, false, false, false, false, false, false, false, false, false, false, false, false, false, false] (by kernel_rfl) rfl rfl ⟨(blk_cell BK280.out 0).trans rfl, (blk_cell BK280.out 1).trans rfl, (blk_cell BK277.out 0).trans rfl, (blk_cell BK277.out 1).trans rfl, (blk_cell BK276.out 0).trans rfl, (blk_cell BK276.out 1).trans rfl, (blk_cell BK285.out 0).trans rfl, (blk_cell BK285.out 1).trans rfl, (blk_cell BK290.out 0).trans rfl, (blk_cell BK290.out 1).trans rfl, (blk_cell BK301.out 0).trans rfl, (blk_cell BK301.out 1).trans rfl, (blk_cell BK305.out 0).trans rfl, (blk_cell BK305.out 1).trans rfl⟩ (fun hHeld => ?_); refine with_tabW laws_FnTwos.tab10 laws_FnTwos.bits10 (fun HT_ HW_ => ?_)
                    generalize w125.drew = w126 at HO293 BK276 BK277 BK280 BK285 BK290 BK301 BK305 HB hHeld ⊢
                    refine take_ (i := 0) (N := some 46) (v := ?_) (a' := ?_) #[true, false, false, false, false, false, false, false, false, false, false, false, false, false, false, false, false, false, false, false, false, false, false, false, false, false, false, false, false, false, false, false, false, false, false, false, false, false, false, false, false, false, false, false, false, false, false, false, false, false, false] rfl rfl (take_ofW HT_.out HW_.out (by kernel_rfl)) (fun _ _ _ h => h) (Or.inl ⟨by rfl, ?_⟩) hHeld ?_ ?_
                    rotate_left
                    · rintro w' ⟨s0, s1, s2, s3, s4, s5, s6, s7, s8, s9, s10, s11, s12, s13⟩
                      go_simp
                      with_reducible rfl
                    rotate_left
                    · simp only [Act.put, List.setIfInBounds_toArray, List.set_cons_zero, List.set_cons_succ, i64_w, i32_w]
                      rfl
                    refine take_ (i := 1) (N := some 47) (v := ?_) (a' := ?_) #[true, true, false, false, false, false, false, false, false, false, false, false, false, false, false, false, false, false, false, false, false, false, false, false, false, false, false, false, false, false, false, false, false, false, false, false, false, false, false, false, false, false, false, false, false, false, false, false, false, false, false] rfl rfl (take_ofW HT_.out HW_.out (by kernel_rfl)) (fun _ _ _ h => h) (Or.inl ⟨by rfl, ?_⟩) hHeld ?_ ?_
                    rotate_left
                    · rintro w' ⟨s0, s1, s2, s3, s4, s5, s6, s7, s8, s9, s10, s11, s12, s13⟩
                      go_simp
                      with_reducible rfl
                    rotate_left
                    · simp only [Act.put, List.setIfInBounds_toArray, List.set_cons_zero, List.set_cons_succ, i64_w, i32_w]
                      rfl
                    refine take_ (i := 2) (N := some 48) (v := ?_) (a' := ?_) #[true, true, true, false, false, false, false, false, false, false, false, false, false, false, false, false, false, false, false, false, false, false, false, false, false, false, false, false, false, false, false, false, false, false, false, false, false, false, false, false, false, false, false, false, false, false, false, false, false, false, false] rfl rfl (take_ofW HT_.out HW_.out (by kernel_rfl)) (fun _ _ _ h => h) (Or.inl ⟨by rfl, ?_⟩) hHeld ?_ ?_
                    rotate_left
                    · rintro w' ⟨s0, s1, s2, s3, s4, s5, s6, s7, s8, s9, s10, s11, s12, s13⟩
                      go_simp
                      with_reducible rfl
                    rotate_left
                    · simp only [Act.put, List.setIfInBounds_toArray, List.set_cons_zero, List.set_cons_succ, i64_w, i32_w]
                      rfl
                    refine one_ (i := 3) (N := some 49) #[true, true, true, true, false, false, false, false, false, false, false, false, false, false, false, false, false, false, false, false, false, false, false, false, false, false, false, false, false, false, false, false, false, false, false, false, false, false, false, false, false, false, false, false, false, false, false, false, false, false, false] rfl rfl (one_of HT_.out (by kernel_rfl)) (by decide) (fun K hK => ?_)
                    refine goes_ Try.func45 (by kernel_rfl) rfl #[.agg #[.int .i64 t274, .int .i64 t275], .agg #[.int .i64 t272, .int .i64 t273]] (by rfl) rfl rfl (by (try simp only [List.map_toArray, List.map_cons, List.map_nil]); first | done | rfl | (simp only [List.length_drop, List.length_take]; rfl)) ?_
                    with_reducible refine (impl_TwoMul.calls t274 t275 t272 t273 t306 t307 _ A16.out).mono ?_
                    rintro e w127 ⟨rfl, hb⟩
                    refine ⟨_, rfl, ?_⟩
                    have n0_ := Aside0.mk (Kd.R_below (by (with_reducible repeat (first | apply Kd.R_alloc | apply Kd.R_drewN | apply Kd.R_drew)); exact HO293.out) hb)
                    have n1_ := Aside0.mk (blk_below (g := gb276) (o := .cells #[.int .i64 t272, .int .i64 t273] 50 (0, 0)) (by exact BK276.out) hb)
                    have n2_ := Aside0.mk (blk_below (g := gb277) (o := .cells #[.int .i64 t274, .int .i64 t275] 50 (0, 0)) (by exact BK277.out) hb)
                    have n3_ := Aside0.mk (blk_below (g := gb280) (o := .cells #[.int .i64 t278, .int .i64 t279] 50 (0, 0)) (by exact BK280.out) hb)
                    have n4_ := Aside0.mk (blk_below (g := gb285) (o := .cells #[.int .i64 t283, .int .i64 t284] 50 (0, 0)) (by exact BK285.out) hb)
                    have n5_ := Aside0.mk (blk_below (g := gb290) (o := .cells #[.int .i64 t288, .int .i64 t289] 50 (0, 0)) (by exact BK290.out) hb)
                    have n6_ := Aside0.mk (blk_below (g := gb301) (o := .cells #[.int .i64 t299, .int .i64 t300] 50 (0, 0)) (by exact BK301.out) hb)
                    have n7_ := Aside0.mk (blk_below (g := gb305) (o := .cells #[.int .i64 t302, .int .i64 t303] 50 (0, 0)) (by exact BK305.out) hb)
                    have n8_ := Aside0.mk (below_step (by repeat (first | (with_reducible first | exact HB.out | apply below_alloc | apply pw_below_drewN | apply below_drew1 | refine below_set ?_ GE276.out | refine below_set ?_ GE277.out | refine below_set ?_ GE280.out | refine below_set ?_ GE285.out | refine below_set ?_ GE290.out | refine below_set ?_ GE301.out | refine below_set ?_ GE305.out) | exact HB.out)) hb)
                    clear HO293
                    clear BK276
                    clear BK277
                    clear BK280
                    clear BK285
                    clear BK290
                    clear BK301
                    clear BK305
                    clear HB
                    have HO293 := n0_
                    have BK276 := n1_
                    have BK277 := n2_
                    have BK280 := n3_
                    have BK285 := n4_
                    have BK290 := n5_
                    have BK301 := n6_
                    have BK305 := n7_
                    have HB := n8_
                    clear n0_ n1_ n2_ n3_ n4_ n5_ n6_ n7_ n8_
                    (try clear hb)
                    (try clear hb2)
                    (try clear hk)
                    (try clear hi)
                    refine hK.out _ _ ⟨(blk_cell BK280.out 0).trans rfl, (blk_cell BK280.out 1).trans rfl, (blk_cell BK277.out 0).trans rfl, (blk_cell BK277.out 1).trans rfl, (blk_cell BK276.out 0).trans rfl, (blk_cell BK276.out 1).trans rfl, (blk_cell BK285.out 0).trans rfl, (blk_cell BK285.out 1).trans rfl, (blk_cell BK290.out 0).trans rfl, (blk_cell BK290.out 1).trans rfl, (blk_cell BK301.out 0).trans rfl, (blk_cell BK301.out 1).trans rfl, (blk_cell BK305.out 0).trans rfl, (blk_cell BK305.out 1).trans rfl⟩ (fun hHeld => ?_)
                    clear hK K
                    refine norm_ (a' := ?_) ?_ ?_
                    rotate_left
                    · show Act.put _ (some 49) _ = _
                      simp only [Act.put, List.setIfInBounds_toArray, List.set_cons_zero, List.set_cons_succ, i64_w, i32_w]
                      rfl
                    refine pure_ (i := 4) (N := some 50) (v := ?_) (a' := ?_) #[true, true, true, true, true, false, false, false, false, false, false, false, false, false, false, false, false, false, false, false, false, false, false, false, false, false, false, false, false, false, false, false, false, false, false, false, false, false, false, false, false, false, false, false, false, false, false, false, false, false, false] rfl rfl (any_of HT_.out (by kernel_rfl)) (fun _ _ _ h => h) (Or.inl ⟨by rfl, ?_⟩) ?_ ?_
                    rotate_left
                    · intro w'
                      go_simp
                      with_reducible rfl
                    rotate_left
                    · simp only [Act.put, List.setIfInBounds_toArray, List.set_cons_zero, List.set_cons_succ, i64_w, i32_w]
                      rfl
                    refine pure_ (i := 5) (N := some 51) (v := ?_) (a' := ?_) #[true, true, true, true, true, true, false, false, false, false, false, false, false, false, false, false, false, false, false, false, false, false, false, false, false, false, false, false, false, false, false, false, false, false, false, false, false, false, false, false, false, false, false, false, false, false, false, false, false, false, false] rfl rfl (any_of HT_.out (by kernel_rfl)) (fun _ _ _ h => h) (Or.inl ⟨by rfl, ?_⟩) ?_ ?_
                    rotate_left
                    · intro w'
                      go_simp
                      with_reducible rfl
                    rotate_left
                    · simp only [Act.put, List.setIfInBounds_toArray, List.set_cons_zero, List.set_cons_succ, i64_w, i32_w]
                      rfl
                    refine pure_ (i := 6) (N := some 52) (v := ?_) (a' := ?_) #[true, true, true, true, true, true, true, false, false, false, false, false, false, false, false, false, false, false, false, false, false, false, false, false, false, false, false, false, false, false, false, false, false, false, false, false, false, false, false, false, false, false, false, false, false, false, false, false, false, false, false] rfl rfl (any_of HT_.out (by kernel_rfl)) (fun _ _ _ h => h) (Or.inl ⟨by rfl, ?_⟩) ?_ ?_
                    rotate_left
                    · intro w'
                      go_simp
                      with_reducible rfl
                    rotate_left
                    · simp only [Act.put, List.setIfInBounds_toArray, List.set_cons_zero, List.set_cons_succ, i64_w, i32_w]
                      rfl
                    refine take_ (i := 7) (N := some 53) (v := ?_) (a' := ?_) #[true, true, true, true, true, true, true, true, false, false, false, false, false, false, false, false, false, false, false, false, false, false, false, false, false, false, false, false, false, false, false, false, false, false, false, false, false, false, false, false, false, false, false, false, false, false, false, false, false, false, false] rfl rfl (take_ofW HT_.out HW_.out (by kernel_rfl)) (fun _ _ _ h => h) (Or.inl ⟨by rfl, ?_⟩) hHeld ?_ ?_
                    rotate_left
                    · rintro w' ⟨s0, s1, s2, s3, s4, s5, s6, s7, s8, s9, s10, s11, s12, s13⟩
                      go_simp
                      with_reducible rfl
                    rotate_left
                    · simp only [Act.put, List.setIfInBounds_toArray, List.set_cons_zero, List.set_cons_succ, i64_w, i32_w]
                      rfl
                    refine pure_ (i := 8) (N := some 54) (v := ?_) (a' := ?_) #[true, true, true, true, true, true, true, true, true, false, false, false, false, false, false, false, false, false, false, false, false, false, false, false, false, false, false, false, false, false, false, false, false, false, false, false, false, false, false, false, false, false, false, false, false, false, false, false, false, false, false] rfl rfl (any_of HT_.out (by kernel_rfl)) (fun _ _ _ h => h) (Or.inl ⟨by rfl, ?_⟩) ?_ ?_
                    rotate_left
                    · intro w'
                      go_simp
                      with_reducible rfl
                    rotate_left
                    · simp only [Act.put, List.setIfInBounds_toArray, List.set_cons_zero, List.set_cons_succ, i64_w, i32_w]
                      rfl
                    refine pure_ (i := 9) (N := some 55) (v := ?_) (a' := ?_) #[true, true, true, true, true, true, true, true, true, true, false, false, false, false, false, false, false, false, false, false, false, false, false, false, false, false, false, false, false, false, false, false, false, false, false, false, false, false, false, false, false, false, false, false, false, false, false, false, false, false, false] rfl rfl (any_of HT_.out (by kernel_rfl)) (fun _ _ _ h => h) (Or.inl ⟨by rfl, ?_⟩) ?_ ?_
                    rotate_left
                    · intro w'
                      go_simp
                      with_reducible rfl
                    rotate_left
                    · simp only [Act.put, List.setIfInBounds_toArray, List.set_cons_zero, List.set_cons_succ, i64_w, i32_w]
                      rfl
                    refine pure_ (i := 10) (N := some 56) (v := ?_) (a' := ?_) #[true, true, true, true, true, true, true, true, true, true, true, false, false, false, false, false, false, false, false, false, false, false, false, false, false, false, false, false, false, false, false, false, false, false, false, false, false, false, false, false, false, false, false, false, false, false, false, false, false, false, false] rfl rfl (any_of HT_.out (by kernel_rfl)) (fun _ _ _ h => h) (Or.inl ⟨by rfl, ?_⟩) ?_ ?_
                    rotate_left
                    · intro w'
                      go_simp
                      with_reducible rfl
                    rotate_left
                    · simp only [Act.put, List.setIfInBounds_toArray, List.set_cons_zero, List.set_cons_succ, i64_w, i32_w]
                      rfl
                    refine pure_ (i := 11) (N := some 57) (v := ?_) (a' := ?_) #[true, true, true, true, true, true, true, true, true, true, true, true, false, false, false, false, false, false, false, false, false, false, false, false, false, false, false, false, false, false, false, false, false, false, false, false, false, false, false, false, false, false, false, false, false, false, false, false, false, false, false] rfl rfl (any_of HT_.out (by kernel_rfl)) (fun _ _ _ h => h) (Or.inl ⟨by rfl, ?_⟩) ?_ ?_
                    rotate_left
                    · intro w'
                      go_simp
                      with_reducible rfl
                    rotate_left
                    · simp only [Act.put, List.setIfInBounds_toArray, List.set_cons_zero, List.set_cons_succ, i64_w, i32_w]
                      rfl
                    refine take_ (i := 12) (N := some 58) (v := ?_) (a' := ?_) #[true, true, true, true, true, true, true, true, true, true, true, true, true, false, false, false, false, false, false, false, false, false, false, false, false, false, false, false, false, false, false, false, false, false, false, false, false, false, false, false, false, false, false, false, false, false, false, false, false, false, false] rfl rfl (take_ofW HT_.out HW_.out (by kernel_rfl)) (fun _ _ _ h => h) (Or.inl ⟨by rfl, ?_⟩) hHeld ?_ ?_
                    rotate_left
                    · rintro w' ⟨s0, s1, s2, s3, s4, s5, s6, s7, s8, s9, s10, s11, s12, s13⟩
                      go_simp
                      with_reducible rfl
                    rotate_left
                    · simp only [Act.put, List.setIfInBounds_toArray, List.set_cons_zero, List.set_cons_succ, i64_w, i32_w]
                      rfl
                    refine pure_ (i := 13) (N := some 59) (v := ?_) (a' := ?_) #[true, true, true, true, true, true, true, true, true, true, true, true, true, true, false, false, false, false, false, false, false, false, false, false, false, false, false, false, false, false, false, false, false, false, false, false, false, false, false, false, false, false, false, false, false, false, false, false, false, false, false] rfl rfl (any_of HT_.out (by kernel_rfl)) (fun _ _ _ h => h) (Or.inl ⟨by rfl, ?_⟩) ?_ ?_
                    rotate_left
                    · intro w'
                      go_simp
                      with_reducible rfl
                    rotate_left
                    · simp only [Act.put, List.setIfInBounds_toArray, List.set_cons_zero, List.set_cons_succ, i64_w, i32_w]
                      rfl
                    refine pure_ (i := 14) (N := some 60) (v := ?_) (a' := ?_) #[true, true, true, true, true, true, true, true, true, true, true, true, true, true, true, false, false, false, false, false, false, false, false, false, false, false, false, false, false, false, false, false, false, false, false, false, false, false, false, false, false, false, false, false, false, false, false, false, false, false, false] rfl rfl (any_of HT_.out (by kernel_rfl)) (fun _ _ _ h => h) (Or.inl ⟨by rfl, ?_⟩) ?_ ?_
                    rotate_left
                    · intro w'
                      go_simp
                      with_reducible rfl
                    rotate_left
                    · simp only [Act.put, List.setIfInBounds_toArray, List.set_cons_zero, List.set_cons_succ, i64_w, i32_w]
                      rfl
                    refine pure_ (i := 15) (N := some 61) (v := ?_) (a' := ?_) #[true, true, true, true, true, true, true, true, true, true, true, true, true, true, true, true, false, false, false, false, false, false, false, false, false, false, false, false, false, false, false, false, false, false, false, false, false, false, false, false, false, false, false, false, false, false, false, false, false, false, false] rfl rfl (any_of HT_.out (by kernel_rfl)) (fun _ _ _ h => h) (Or.inl ⟨by rfl, ?_⟩) ?_ ?_
                    rotate_left
                    · intro w'
                      go_simp
                      with_reducible rfl
                    rotate_left
                    · simp only [Act.put, List.setIfInBounds_toArray, List.set_cons_zero, List.set_cons_succ, i64_w, i32_w]
                      rfl
                    refine pure_ (i := 17) (N := some 63) (v := ?_) (a' := ?_) #[true, true, true, true, true, true, true, true, true, true, true, true, true, true, true, true, false, true, false, false, false, false, false, false, false, false, false, false, false, false, false, false, false, false, false, false, false, false, false, false, false, false, false, false, false, false, false, false, false, false, false] rfl rfl (any_of HT_.out (by kernel_rfl)) (fun _ _ _ h => h) (Or.inl ⟨by rfl, ?_⟩) ?_ ?_
                    rotate_left
                    · intro w'
                      go_simp
                      with_reducible rfl
                    rotate_left
                    · simp only [Act.put, List.setIfInBounds_toArray, List.set_cons_zero, List.set_cons_succ, i64_w, i32_w]
                      rfl
                    refine take_ (i := 16) (N := some 62) (v := ?_) (a' := ?_) #[true, true, true, true, true, true, true, true, true, true, true, true, true, true, true, true, true, true, false, false, false, false, false, false, false, false, false, false, false, false, false, false, false, false, false, false, false, false, false, false, false, false, false, false, false, false, false, false, false, false, false] rfl rfl (take_ofW HT_.out HW_.out (by kernel_rfl)) (fun _ _ _ h => h) (Or.inl ⟨by rfl, ?_⟩) hHeld ?_ ?_
                    rotate_left
                    · rintro w' ⟨s0, s1, s2, s3, s4, s5, s6, s7, s8, s9, s10, s11, s12, s13⟩
                      go_simp
                      with_reducible rfl
                    rotate_left
                    · simp only [Act.put, List.setIfInBounds_toArray, List.set_cons_zero, List.set_cons_succ, i64_w, i32_w]
                      rfl
                    refine pure_ (i := 18) (N := some 64) (v := ?_) (a' := ?_) #[true, true, true, true, true, true, true, true, true, true, true, true, true, true, true, true, true, true, true, false, false, false, false, false, false, false, false, false, false, false, false, false, false, false, false, false, false, false, false, false, false, false, false, false, false, false, false, false, false, false, false] rfl rfl (any_of HT_.out (by kernel_rfl)) (fun _ _ _ h => h) (Or.inl ⟨by rfl, ?_⟩) ?_ ?_
                    rotate_left
                    · intro w'
                      go_simp
                      with_reducible rfl
                    rotate_left
                    · simp only [Act.put, List.setIfInBounds_toArray, List.set_cons_zero, List.set_cons_succ, i64_w, i32_w]
                      rfl
                    refine pure_ (i := 19) (N := some 65) (v := ?_) (a' := ?_) #[true, true, true, true, true, true, true, true, true, true, true, true, true, true, true, true, true, true, true, true, false, false, false, false, false, false, false, false, false, false, false, false, false, false, false, false, false, false, false, false, false, false, false, false, false, false, false, false, false, false, false] rfl rfl (any_of HT_.out (by kernel_rfl)) (fun _ _ _ h => h) (Or.inl ⟨by rfl, ?_⟩) ?_ ?_
                    rotate_left
                    · intro w'
                      go_simp
                      with_reducible rfl
                    rotate_left
                    · simp only [Act.put, List.setIfInBounds_toArray, List.set_cons_zero, List.set_cons_succ, i64_w, i32_w]
                      rfl
                    refine pure_ (i := 20) (N := some 66) (v := ?_) (a' := ?_) #[true, true, true, true, true, true, true, true, true, true, true, true, true, true, true, true, true, true, true, true, true, false, false, false, false, false, false, false, false, false, false, false, false, false, false, false, false, false, false, false, false, false, false, false, false, false, false, false, false, false, false] rfl rfl (any_of HT_.out (by kernel_rfl)) (fun _ _ _ h => h) (Or.inl ⟨by rfl, ?_⟩) ?_ ?_
                    rotate_left
                    · intro w'
                      go_simp
                      with_reducible rfl
                    rotate_left
                    · simp only [Act.put, List.setIfInBounds_toArray, List.set_cons_zero, List.set_cons_succ, i64_w, i32_w]
                      rfl
                    refine pure_ (i := 23) (N := some 69) (v := ?_) (a' := ?_) #[true, true, true, true, true, true, true, true, true, true, true, true, true, true, true, true, true, true, true, true, true, false, false, true, false, false, false, false, false, false, false, false, false, false, false, false, false, false, false, false, false, false, false, false, false, false, false, false, false, false, false] rfl rfl (any_of HT_.out (by kernel_rfl)) (fun _ _ _ h => h) (Or.inl ⟨by rfl, ?_⟩) ?_ ?_
                    rotate_left
                    · intro w'
                      go_simp
                      with_reducible rfl
                    rotate_left
                    · simp only [Act.put, List.setIfInBounds_toArray, List.set_cons_zero, List.set_cons_succ, i64_w, i32_w]
                      rfl
                    refine pure_ (i := 24) (N := some 70) (v := ?_) (a' := ?_) #[true, true, true, true, true, true, true, true, true, true, true, true, true, true, true, true, true, true, true, true, true, false, false, true, true, false, false, false, false, false, false, false, false, false, false, false, false, false, false, false, false, false, false, false, false, false, false, false, false, false, false] rfl rfl (any_of HT_.out (by kernel_rfl)) (fun _ _ _ h => h) (Or.inl ⟨by rfl, ?_⟩) ?_ ?_
                    rotate_left
                    · intro w'
                      go_simp
                      with_reducible rfl
                    rotate_left
                    · simp only [Act.put, List.setIfInBounds_toArray, List.set_cons_zero, List.set_cons_succ, i64_w, i32_w]
                      rfl
                    refine take_ (i := 21) (N := some 67) (v := ?_) (a' := ?_) #[true, true, true, true, true, true, true, true, true, true, true, true, true, true, true, true, true, true, true, true, true, true, false, true, true, false, false, false, false, false, false, false, false, false, false, false, false, false, false, false, false, false, false, false, false, false, false, false, false, false, false] rfl rfl (take_ofW HT_.out HW_.out (by kernel_rfl)) (fun _ _ _ h => h) (Or.inl ⟨by rfl, ?_⟩) hHeld ?_ ?_
                    rotate_left
                    · rintro w' ⟨s0, s1, s2, s3, s4, s5, s6, s7, s8, s9, s10, s11, s12, s13⟩
                      go_simp
                      with_reducible rfl
                    rotate_left
                    · simp only [Act.put, List.setIfInBounds_toArray, List.set_cons_zero, List.set_cons_succ, i64_w, i32_w]
                      rfl
                    refine take_ (i := 22) (N := some 68) (v := ?_) (a' := ?_) #[true, true, true, true, true, true, true, true, true, true, true, true, true, true, true, true, true, true, true, true, true, true, true, true, true, false, false, false, false, false, false, false, false, false, false, false, false, false, false, false, false, false, false, false, false, false, false, false, false, false, false] rfl rfl (take_ofW HT_.out HW_.out (by kernel_rfl)) (fun _ _ _ h => h) (Or.inl ⟨by rfl, ?_⟩) hHeld ?_ ?_
                    rotate_left
                    · rintro w' ⟨s0, s1, s2, s3, s4, s5, s6, s7, s8, s9, s10, s11, s12, s13⟩
                      go_simp
                      with_reducible rfl
                    rotate_left
                    · simp only [Act.put, List.setIfInBounds_toArray, List.set_cons_zero, List.set_cons_succ, i64_w, i32_w]
                      rfl
                    refine one_ (i := 25) (N := some 71) #[true, true, true, true, true, true, true, true, true, true, true, true, true, true, true, true, true, true, true, true, true, true, true, true, true, true, false, false, false, false, false, false, false, false, false, false, false, false, false, false, false, false, false, false, false, false, false, false, false, false, false] rfl rfl (one_of HT_.out (by kernel_rfl)) (by decide) (fun K hK => ?_)
                    refine goes_ Try.func48 (by kernel_rfl) rfl #[.agg #[.int .i64 t272, .int .i64 t273], .int .i64 (wrap64 ((Int.tmod (rd t291 0) 40) + 3))] (by rfl) rfl rfl (by (try simp only [List.map_toArray, List.map_cons, List.map_nil]); first | done | rfl | (simp only [List.length_drop, List.length_take]; rfl)) ?_
                    with_reducible refine (impl_TwoPow.calls k t272 t273 (wrap64 ((Int.tmod (rd t291 0) 40) + 3)) t308 t309 _ A70.out).mono ?_
                    rintro e w128 ⟨rfl, hb⟩
                    refine ⟨_, rfl, ?_⟩
                    have n0_ := Aside0.mk (Kd.R_below (by (with_reducible repeat (first | apply Kd.R_alloc | apply Kd.R_drewN | apply Kd.R_drew)); exact HO293.out) hb)
                    have n1_ := Aside0.mk (blk_below (g := gb276) (o := .cells #[.int .i64 t272, .int .i64 t273] 50 (0, 0)) (by exact BK276.out) hb)
                    have n2_ := Aside0.mk (blk_below (g := gb277) (o := .cells #[.int .i64 t274, .int .i64 t275] 50 (0, 0)) (by exact BK277.out) hb)
                    have n3_ := Aside0.mk (blk_below (g := gb280) (o := .cells #[.int .i64 t278, .int .i64 t279] 50 (0, 0)) (by exact BK280.out) hb)
                    have n4_ := Aside0.mk (blk_below (g := gb285) (o := .cells #[.int .i64 t283, .int .i64 t284] 50 (0, 0)) (by exact BK285.out) hb)
                    have n5_ := Aside0.mk (blk_below (g := gb290) (o := .cells #[.int .i64 t288, .int .i64 t289] 50 (0, 0)) (by exact BK290.out) hb)
                    have n6_ := Aside0.mk (blk_below (g := gb301) (o := .cells #[.int .i64 t299, .int .i64 t300] 50 (0, 0)) (by exact BK301.out) hb)
                    have n7_ := Aside0.mk (blk_below (g := gb305) (o := .cells #[.int .i64 t302, .int .i64 t303] 50 (0, 0)) (by exact BK305.out) hb)
                    have n8_ := Aside0.mk (below_step (by repeat (first | (with_reducible first | exact HB.out | apply below_alloc | apply pw_below_drewN | apply below_drew1 | refine below_set ?_ GE276.out | refine below_set ?_ GE277.out | refine below_set ?_ GE280.out | refine below_set ?_ GE285.out | refine below_set ?_ GE290.out | refine below_set ?_ GE301.out | refine below_set ?_ GE305.out) | exact HB.out)) hb)
                    clear HO293
                    clear BK276
                    clear BK277
                    clear BK280
                    clear BK285
                    clear BK290
                    clear BK301
                    clear BK305
                    clear HB
                    have HO293 := n0_
                    have BK276 := n1_
                    have BK277 := n2_
                    have BK280 := n3_
                    have BK285 := n4_
                    have BK290 := n5_
                    have BK301 := n6_
                    have BK305 := n7_
                    have HB := n8_
                    clear n0_ n1_ n2_ n3_ n4_ n5_ n6_ n7_ n8_
                    (try clear hb)
                    (try clear hb2)
                    (try clear hk)
                    (try clear hi)
                    refine hK.out _ _ ⟨(blk_cell BK280.out 0).trans rfl, (blk_cell BK280.out 1).trans rfl, (blk_cell BK277.out 0).trans rfl, (blk_cell BK277.out 1).trans rfl, (blk_cell BK276.out 0).trans rfl, (blk_cell BK276.out 1).trans rfl, (blk_cell BK285.out 0).trans rfl, (blk_cell BK285.out 1).trans rfl, (blk_cell BK290.out 0).trans rfl, (blk_cell BK290.out 1).trans rfl, (blk_cell BK301.out 0).trans rfl, (blk_cell BK301.out 1).trans rfl, (blk_cell BK305.out 0).trans rfl, (blk_cell BK305.out 1).trans rfl⟩ (fun hHeld => ?_)
                    clear hK K
                    refine norm_ (a' := ?_) ?_ ?_
                    rotate_left
                    · show Act.put _ (some 71) _ = _
                      simp only [Act.put, List.setIfInBounds_toArray, List.set_cons_zero, List.set_cons_succ, i64_w, i32_w]
                      rfl
                    refine pure_ (i := 26) (N := some 72) (v := ?_) (a' := ?_) #[true, true, true, true, true, true, true, true, true, true, true, true, true, true, true, true, true, true, true, true, true, true, true, true, true, true, true, false, false, false, false, false, false, false, false, false, false, false, false, false, false, false, false, false, false, false, false, false, false, false, false] rfl rfl (any_of HT_.out (by kernel_rfl)) (fun _ _ _ h => h) (Or.inl ⟨by rfl, ?_⟩) ?_ ?_
                    rotate_left
                    · intro w'
                      go_simp
                      with_reducible rfl
                    rotate_left
                    · simp only [Act.put, List.setIfInBounds_toArray, List.set_cons_zero, List.set_cons_succ, i64_w, i32_w]
                      rfl
                    refine pure_ (i := 27) (N := some 73) (v := ?_) (a' := ?_) #[true, true, true, true, true, true, true, true, true, true, true, true, true, true, true, true, true, true, true, true, true, true, true, true, true, true, true, true, false, false, false, false, false, false, false, false, false, false, false, false, false, false, false, false, false, false, false, false, false, false, false] rfl rfl (any_of HT_.out (by kernel_rfl)) (fun _ _ _ h => h) (Or.inl ⟨by rfl, ?_⟩) ?_ ?_
                    rotate_left
                    · intro w'
                      go_simp
                      with_reducible rfl
                    rotate_left
                    · simp only [Act.put, List.setIfInBounds_toArray, List.set_cons_zero, List.set_cons_succ, i64_w, i32_w]
                      rfl
                    refine pure_ (i := 28) (N := some 74) (v := ?_) (a' := ?_) #[true, true, true, true, true, true, true, true, true, true, true, true, true, true, true, true, true, true, true, true, true, true, true, true, true, true, true, true, true, false, false, false, false, false, false, false, false, false, false, false, false, false, false, false, false, false, false, false, false, false, false] rfl rfl (any_of HT_.out (by kernel_rfl)) (fun _ _ _ h => h) (Or.inl ⟨by rfl, ?_⟩) ?_ ?_
                    rotate_left
                    · intro w'
                      go_simp
                      with_reducible rfl
                    rotate_left
                    · simp only [Act.put, List.setIfInBounds_toArray, List.set_cons_zero, List.set_cons_succ, i64_w, i32_w]
                      rfl
                    refine pure_ (i := 30) (N := some 76) (v := ?_) (a' := ?_) #[true, true, true, true, true, true, true, true, true, true, true, true, true, true, true, true, true, true, true, true, true, true, true, true, true, true, true, true, true, false, true, false, false, false, false, false, false, false, false, false, false, false, false, false, false, false, false, false, false, false, false] rfl rfl (any_of HT_.out (by kernel_rfl)) (fun _ _ _ h => h) (Or.inl ⟨by rfl, ?_⟩) ?_ ?_
                    rotate_left
                    · intro w'
                      go_simp
                      with_reducible rfl
                    rotate_left
                    · simp only [Act.put, List.setIfInBounds_toArray, List.set_cons_zero, List.set_cons_succ, i64_w, i32_w]
                      rfl
                    refine pure_ (i := 33) (N := some 79) (v := ?_) (a' := ?_) #[true, true, true, true, true, true, true, true, true, true, true, true, true, true, true, true, true, true, true, true, true, true, true, true, true, true, true, true, true, false, true, false, false, true, false, false, false, false, false, false, false, false, false, false, false, false, false, false, false, false, false] rfl rfl (any_of HT_.out (by kernel_rfl)) (fun _ _ _ h => h) (Or.inl ⟨by rfl, ?_⟩) ?_ ?_
                    rotate_left
                    · intro w'
                      go_simp
                      with_reducible rfl
                    rotate_left
                    · simp only [Act.put, List.setIfInBounds_toArray, List.set_cons_zero, List.set_cons_succ, i64_w, i32_w]
                      rfl
                    refine take_ (i := 29) (N := some 75) (v := ?_) (a' := ?_) #[true, true, true, true, true, true, true, true, true, true, true, true, true, true, true, true, true, true, true, true, true, true, true, true, true, true, true, true, true, true, true, false, false, true, false, false, false, false, false, false, false, false, false, false, false, false, false, false, false, false, false] rfl rfl (take_ofW HT_.out HW_.out (by kernel_rfl)) (fun _ _ _ h => h) (Or.inl ⟨by rfl, ?_⟩) hHeld ?_ ?_
                    rotate_left
                    · rintro w' ⟨s0, s1, s2, s3, s4, s5, s6, s7, s8, s9, s10, s11, s12, s13⟩
                      go_simp
                      with_reducible rfl
                    rotate_left
                    · simp only [Act.put, List.setIfInBounds_toArray, List.set_cons_zero, List.set_cons_succ, i64_w, i32_w]
                      rfl
                    refine take_ (i := 32) (N := some 78) (v := ?_) (a' := ?_) #[true, true, true, true, true, true, true, true, true, true, true, true, true, true, true, true, true, true, true, true, true, true, true, true, true, true, true, true, true, true, true, false, true, true, false, false, false, false, false, false, false, false, false, false, false, false, false, false, false, false, false] rfl rfl (take_ofW HT_.out HW_.out (by kernel_rfl)) (fun _ _ _ h => h) (Or.inl ⟨by rfl, ?_⟩) hHeld ?_ ?_
                    rotate_left
                    · rintro w' ⟨s0, s1, s2, s3, s4, s5, s6, s7, s8, s9, s10, s11, s12, s13⟩
                      go_simp
                      with_reducible rfl
                    rotate_left
                    · simp only [Act.put, List.setIfInBounds_toArray, List.set_cons_zero, List.set_cons_succ, i64_w, i32_w]
                      rfl
                    refine one_ (i := 31) (N := some 77) #[true, true, true, true, true, true, true, true, true, true, true, true, true, true, true, true, true, true, true, true, true, true, true, true, true, true, true, true, true, true, true, true, true, true, false, false, false, false, false, false, false, false, false, false, false, false, false, false, false, false, false] rfl rfl (one_of HT_.out (by kernel_rfl)) (by decide) (fun K hK => ?_)
                    refine goes_ Try.func48 (by kernel_rfl) rfl #[.agg #[.int .i64 t302, .int .i64 t303], .int .i64 t304] (by rfl) rfl rfl (by (try simp only [List.map_toArray, List.map_cons, List.map_nil]); first | done | rfl | (simp only [List.length_drop, List.length_take]; rfl)) ?_
                    with_reducible refine (impl_TwoPow.calls k t302 t303 t304 t310 t311 _ A72.out).mono ?_
                    rintro e w129 ⟨rfl, hb⟩
                    refine ⟨_, rfl, ?_⟩
                    have n0_ := Aside0.mk (Kd.R_below (by (with_reducible repeat (first | apply Kd.R_alloc | apply Kd.R_drewN | apply Kd.R_drew)); exact HO293.out) hb)
                    have n1_ := Aside0.mk (blk_below (g := gb276) (o := .cells #[.int .i64 t272, .int .i64 t273] 50 (0, 0)) (by exact BK276.out) hb)
                    have n2_ := Aside0.mk (blk_below (g := gb277) (o := .cells #[.int .i64 t274, .int .i64 t275] 50 (0, 0)) (by exact BK277.out) hb)
                    have n3_ := Aside0.mk (blk_below (g := gb280) (o := .cells #[.int .i64 t278, .int .i64 t279] 50 (0, 0)) (by exact BK280.out) hb)
                    have n4_ := Aside0.mk (blk_below (g := gb285) (o := .cells #[.int .i64 t283, .int .i64 t284] 50 (0, 0)) (by exact BK285.out) hb)
                    have n5_ := Aside0.mk (blk_below (g := gb290) (o := .cells #[.int .i64 t288, .int .i64 t289] 50 (0, 0)) (by exact BK290.out) hb)
                    have n6_ := Aside0.mk (blk_below (g := gb301) (o := .cells #[.int .i64 t299, .int .i64 t300] 50 (0, 0)) (by exact BK301.out) hb)
                    have n7_ := Aside0.mk (blk_below (g := gb305) (o := .cells #[.int .i64 t302, .int .i64 t303] 50 (0, 0)) (by exact BK305.out) hb)
                    have n8_ := Aside0.mk (below_step (by repeat (first | (with_reducible first | exact HB.out | apply below_alloc | apply pw_below_drewN | apply below_drew1 | refine below_set ?_ GE276.out | refine below_set ?_ GE277.out | refine below_set ?_ GE280.out | refine below_set ?_ GE285.out | refine below_set ?_ GE290.out | refine below_set ?_ GE301.out | refine below_set ?_ GE305.out) | exact HB.out)) hb)
                    clear HO293
                    clear BK276
                    clear BK277
                    clear BK280
                    clear BK285
                    clear BK290
                    clear BK301
                    clear BK305
                    clear HB
                    have HO293 := n0_
                    have BK276 := n1_
                    have BK277 := n2_
                    have BK280 := n3_
                    have BK285 := n4_
                    have BK290 := n5_
                    have BK301 := n6_
                    have BK305 := n7_
                    have HB := n8_
                    clear n0_ n1_ n2_ n3_ n4_ n5_ n6_ n7_ n8_
                    (try clear hb)
                    (try clear hb2)
                    (try clear hk)
                    (try clear hi)
                    refine hK.out _ _ ⟨(blk_cell BK280.out 0).trans rfl, (blk_cell BK280.out 1).trans rfl, (blk_cell BK277.out 0).trans rfl, (blk_cell BK277.out 1).trans rfl, (blk_cell BK276.out 0).trans rfl, (blk_cell BK276.out 1).trans rfl, (blk_cell BK285.out 0).trans rfl, (blk_cell BK285.out 1).trans rfl, (blk_cell BK290.out 0).trans rfl, (blk_cell BK290.out 1).trans rfl, (blk_cell BK301.out 0).trans rfl, (blk_cell BK301.out 1).trans rfl, (blk_cell BK305.out 0).trans rfl, (blk_cell BK305.out 1).trans rfl⟩ (fun hHeld => ?_)
                    clear hK K
                    refine norm_ (a' := ?_) ?_ ?_
                    rotate_left
                    · show Act.put _ (some 77) _ = _
                      simp only [Act.put, List.setIfInBounds_toArray, List.set_cons_zero, List.set_cons_succ, i64_w, i32_w]
                      rfl
                    refine one_ (i := 34) (N := some 80) #[true, true, true, true, true, true, true, true, true, true, true, true, true, true, true, true, true, true, true, true, true, true, true, true, true, true, true, true, true, true, true, true, true, true, true, false, false, false, false, false, false, false, false, false, false, false, false, false, false, false, false] rfl rfl (one_of HT_.out (by kernel_rfl)) (by decide) (fun K hK => ?_)
                    refine goes_ Try.func50 (by kernel_rfl) rfl #[.agg #[.int .i64 t302, .int .i64 t303], .int .i64 t304] (by rfl) rfl rfl (by (try simp only [List.map_toArray, List.map_cons, List.map_nil]); first | done | rfl | (simp only [List.length_drop, List.length_take]; rfl)) ?_
                    with_reducible refine (spec_TwoPow.calls k t302 t303 t304 t312 t313 _ A73.out).mono ?_
                    rintro e w130 ⟨rfl, hb⟩
                    refine ⟨_, rfl, ?_⟩
                    have n0_ := Aside0.mk (Kd.R_below (by (with_reducible repeat (first | apply Kd.R_alloc | apply Kd.R_drewN | apply Kd.R_drew)); exact HO293.out) hb)
                    have n1_ := Aside0.mk (blk_below (g := gb276) (o := .cells #[.int .i64 t272, .int .i64 t273] 50 (0, 0)) (by exact BK276.out) hb)
                    have n2_ := Aside0.mk (blk_below (g := gb277) (o := .cells #[.int .i64 t274, .int .i64 t275] 50 (0, 0)) (by exact BK277.out) hb)
                    have n3_ := Aside0.mk (blk_below (g := gb280) (o := .cells #[.int .i64 t278, .int .i64 t279] 50 (0, 0)) (by exact BK280.out) hb)
                    have n4_ := Aside0.mk (blk_below (g := gb285) (o := .cells #[.int .i64 t283, .int .i64 t284] 50 (0, 0)) (by exact BK285.out) hb)
                    have n5_ := Aside0.mk (blk_below (g := gb290) (o := .cells #[.int .i64 t288, .int .i64 t289] 50 (0, 0)) (by exact BK290.out) hb)
                    have n6_ := Aside0.mk (blk_below (g := gb301) (o := .cells #[.int .i64 t299, .int .i64 t300] 50 (0, 0)) (by exact BK301.out) hb)
                    have n7_ := Aside0.mk (blk_below (g := gb305) (o := .cells #[.int .i64 t302, .int .i64 t303] 50 (0, 0)) (by exact BK305.out) hb)
                    have n8_ := Aside0.mk (below_step (by repeat (first | (with_reducible first | exact HB.out | apply below_alloc | apply pw_below_drewN | apply below_drew1 | refine below_set ?_ GE276.out | refine below_set ?_ GE277.out | refine below_set ?_ GE280.out | refine below_set ?_ GE285.out | refine below_set ?_ GE290.out | refine below_set ?_ GE301.out | refine below_set ?_ GE305.out) | exact HB.out)) hb)
                    clear HO293
                    clear BK276
                    clear BK277
                    clear BK280
                    clear BK285
                    clear BK290
                    clear BK301
                    clear BK305
                    clear HB
                    have HO293 := n0_
                    have BK276 := n1_
                    have BK277 := n2_
                    have BK280 := n3_
                    have BK285 := n4_
                    have BK290 := n5_
                    have BK301 := n6_
                    have BK305 := n7_
                    have HB := n8_
                    clear n0_ n1_ n2_ n3_ n4_ n5_ n6_ n7_ n8_
                    (try clear hb)
                    (try clear hb2)
                    (try clear hk)
                    (try clear hi)
                    refine hK.out _ _ ⟨(blk_cell BK280.out 0).trans rfl, (blk_cell BK280.out 1).trans rfl, (blk_cell BK277.out 0).trans rfl, (blk_cell BK277.out 1).trans rfl, (blk_cell BK276.out 0).trans rfl, (blk_cell BK276.out 1).trans rfl, (blk_cell BK285.out 0).trans rfl, (blk_cell BK285.out 1).trans rfl, (blk_cell BK290.out 0).trans rfl, (blk_cell BK290.out 1).trans rfl, (blk_cell BK301.out 0).trans rfl, (blk_cell BK301.out 1).trans rfl, (blk_cell BK305.out 0).trans rfl, (blk_cell BK305.out 1).trans rfl⟩ (fun hHeld => ?_)
                    clear hK K
                    refine norm_ (a' := ?_) ?_ ?_
                    rotate_left
                    · show Act.put _ (some 80) _ = _
                      simp only [Act.put, List.setIfInBounds_toArray, List.set_cons_zero, List.set_cons_succ, i64_w, i32_w]
                      rfl
                    refine pure_ (i := 35) (N := some 81) (v := ?_) (a' := ?_) #[true, true, true, true, true, true, true, true, true, true, true, true, true, true, true, true, true, true, true, true, true, true, true, true, true, true, true, true, true, true, true, true, true, true, true, true, false, false, false, false, false, false, false, false, false, false, false, false, false, false, false] rfl rfl (any_of HT_.out (by kernel_rfl)) (fun _ _ _ h => h) (Or.inl ⟨by rfl, ?_⟩) ?_ ?_
                    rotate_left
                    · intro w'
                      go_simp
                      with_reducible rfl
                    rotate_left
                    · simp only [Act.put, List.setIfInBounds_toArray, List.set_cons_zero, List.set_cons_succ, i64_w, i32_w]
                      rfl
                    refine pure_ (i := 36) (N := some 82) (v := ?_) (a' := ?_) #[true, true, true, true, true, true, true, true, true, true, true, true, true, true, true, true, true, true, true, true, true, true, true, true, true, true, true, true, true, true, true, true, true, true, true, true, true, false, false, false, false, false, false, false, false, false, false, false, false, false, false] rfl rfl (any_of HT_.out (by kernel_rfl)) (fun _ _ _ h => h) (Or.inl ⟨by rfl, ?_⟩) ?_ ?_
                    rotate_left
                    · intro w'
                      go_simp
                      with_reducible rfl
                    rotate_left
                    · simp only [Act.put, List.setIfInBounds_toArray, List.set_cons_zero, List.set_cons_succ, i64_w, i32_w]
                      rfl
                    refine pure_ (i := 37) (N := some 83) (v := ?_) (a' := ?_) #[true, true, true, true, true, true, true, true, true, true, true, true, true, true, true, true, true, true, true, true, true, true, true, true, true, true, true, true, true, true, true, true, true, true, true, true, true, true, false, false, false, false, false, false, false, false, false, false, false, false, false] rfl rfl (any_of HT_.out (by kernel_rfl)) (fun _ _ _ h => h) (Or.inl ⟨by rfl, ?_⟩) ?_ ?_
                    rotate_left
                    · intro w'
                      go_simp
                      with_reducible rfl
                    rotate_left
                    · simp only [Act.put, List.setIfInBounds_toArray, List.set_cons_zero, List.set_cons_succ, i64_w, i32_w]
                      rfl
                    refine take_ (i := 38) (N := some 84) (v := ?_) (a' := ?_) #[true, true, true, true, true, true, true, true, true, true, true, true, true, true, true, true, true, true, true, true, true, true, true, true, true, true, true, true, true, true, true, true, true, true, true, true, true, true, true, false, false, false, false, false, false, false, false, false, false, false, false] rfl rfl (take_ofW HT_.out HW_.out (by kernel_rfl)) (fun _ _ _ h => h) (Or.inl ⟨by rfl, ?_⟩) hHeld ?_ ?_
                    rotate_left
                    · rintro w' ⟨s0, s1, s2, s3, s4, s5, s6, s7, s8, s9, s10, s11, s12, s13⟩
                      go_simp
                      with_reducible rfl
                    rotate_left
                    · simp only [Act.put, List.setIfInBounds_toArray, List.set_cons_zero, List.set_cons_succ, i64_w, i32_w]
                      rfl
                    refine take_ (i := 39) (N := some 85) (v := ?_) (a' := ?_) #[true, true, true, true, true, true, true, true, true, true, true, true, true, true, true, true, true, true, true, true, true, true, true, true, true, true, true, true, true, true, true, true, true, true, true, true, true, true, true, true, false, false, false, false, false, false, false, false, false, false, false] rfl rfl (take_ofW HT_.out HW_.out (by kernel_rfl)) (fun _ _ _ h => h) (Or.inl ⟨by rfl, ?_⟩) hHeld ?_ ?_
                    rotate_left
                    · rintro w' ⟨s0, s1, s2, s3, s4, s5, s6, s7, s8, s9, s10, s11, s12, s13⟩
                      go_simp
                      with_reducible rfl
                    rotate_left
                    · simp only [Act.put, List.setIfInBounds_toArray, List.set_cons_zero, List.set_cons_succ, i64_w, i32_w]
                      rfl
                    refine take_ (i := 41) (N := some 87) (v := ?_) (a' := ?_) #[true, true, true, true, true, true, true, true, true, true, true, true, true, true, true, true, true, true, true, true, true, true, true, true, true, true, true, true, true, true, true, true, true, true, true, true, true, true, true, true, false, true, false, false, false, false, false, false, false, false, false] rfl rfl (take_ofW HT_.out HW_.out (by kernel_rfl)) (fun _ _ _ h => h) (Or.inl ⟨by rfl, ?_⟩) hHeld ?_ ?_
                    rotate_left
                    · rintro w' ⟨s0, s1, s2, s3, s4, s5, s6, s7, s8, s9, s10, s11, s12, s13⟩
                      go_simp
                      with_reducible rfl
                    rotate_left
                    · simp only [Act.put, List.setIfInBounds_toArray, List.set_cons_zero, List.set_cons_succ, i64_w, i32_w]
                      rfl
                    refine take_ (i := 42) (N := some 88) (v := ?_) (a' := ?_) #[true, true, true, true, true, true, true, true, true, true, true, true, true, true, true, true, true, true, true, true, true, true, true, true, true, true, true, true, true, true, true, true, true, true, true, true, true, true, true, true, false, true, true, false, false, false, false, false, false, false, false] rfl rfl (take_ofW HT_.out HW_.out (by kernel_rfl)) (fun _ _ _ h => h) (Or.inl ⟨by rfl, ?_⟩) hHeld ?_ ?_
                    rotate_left
                    · rintro w' ⟨s0, s1, s2, s3, s4, s5, s6, s7, s8, s9, s10, s11, s12, s13⟩
                      go_simp
                      with_reducible rfl
                    rotate_left
                    · simp only [Act.put, List.setIfInBounds_toArray, List.set_cons_zero, List.set_cons_succ, i64_w, i32_w]
                      rfl
                    refine one_ (i := 40) (N := some 86) #[true, true, true, true, true, true, true, true, true, true, true, true, true, true, true, true, true, true, true, true, true, true, true, true, true, true, true, true, true, true, true, true, true, true, true, true, true, true, true, true, true, true, true, false, false, false, false, false, false, false, false] rfl rfl (one_of HT_.out (by kernel_rfl)) (by decide) (fun K hK => ?_)
                    refine goes_ Try.func51 (by kernel_rfl) rfl #[.agg #[.int .i64 t272, .int .i64 t273], .agg #[.int .i64 t274, .int .i64 t275]] (by rfl) rfl rfl (by (try simp only [List.map_toArray, List.map_cons, List.map_nil]); first | done | rfl | (simp only [List.length_drop, List.length_take]; rfl)) ?_
                    with_reducible refine (impl_TwoAdd.calls t272 t273 t274 t275 t314 t315 _ A75.out).mono ?_
                    rintro e w131 ⟨rfl, hb⟩
                    refine ⟨_, rfl, ?_⟩
                    have n0_ := Aside0.mk (Kd.R_below (by (with_reducible repeat (first | apply Kd.R_alloc | apply Kd.R_drewN | apply Kd.R_drew)); exact HO293.out) hb)
                    have n1_ := Aside0.mk (blk_below (g := gb276) (o := .cells #[.int .i64 t272, .int .i64 t273] 50 (0, 0)) (by exact BK276.out) hb)
                    have n2_ := Aside0.mk (blk_below (g := gb277) (o := .cells #[.int .i64 t274, .int .i64 t275] 50 (0, 0)) (by exact BK277.out) hb)
                    have n3_ := Aside0.mk (blk_below (g := gb280) (o := .cells #[.int .i64 t278, .int .i64 t279] 50 (0, 0)) (by exact BK280.out) hb)
                    have n4_ := Aside0.mk (blk_below (g := gb285) (o := .cells #[.int .i64 t283, .int .i64 t284] 50 (0, 0)) (by exact BK285.out) hb)
                    have n5_ := Aside0.mk (blk_below (g := gb290) (o := .cells #[.int .i64 t288, .int .i64 t289] 50 (0, 0)) (by exact BK290.out) hb)
                    have n6_ := Aside0.mk (blk_below (g := gb301) (o := .cells #[.int .i64 t299, .int .i64 t300] 50 (0, 0)) (by exact BK301.out) hb)
                    have n7_ := Aside0.mk (blk_below (g := gb305) (o := .cells #[.int .i64 t302, .int .i64 t303] 50 (0, 0)) (by exact BK305.out) hb)
                    have n8_ := Aside0.mk (below_step (by repeat (first | (with_reducible first | exact HB.out | apply below_alloc | apply pw_below_drewN | apply below_drew1 | refine below_set ?_ GE276.out | refine below_set ?_ GE277.out | refine below_set ?_ GE280.out | refine below_set ?_ GE285.out | refine below_set ?_ GE290.out | refine below_set ?_ GE301.out | refine below_set ?_ GE305.out) | exact HB.out)) hb)
                    clear HO293
                    clear BK276
                    clear BK277
                    clear BK280
                    clear BK285
                    clear BK290
                    clear BK301
                    clear BK305
                    clear HB
                    have HO293 := n0_
                    have BK276 := n1_
                    have BK277 := n2_
                    have BK280 := n3_
                    have BK285 := n4_
                    have BK290 := n5_
                    have BK301 := n6_
                    have BK305 := n7_
                    have HB := n8_
                    clear n0_ n1_ n2_ n3_ n4_ n5_ n6_ n7_ n8_
                    (try clear hb)
                    (try clear hb2)
                    (try clear hk)
                    (try clear hi)
                    refine hK.out _ _ ⟨(blk_cell BK280.out 0).trans rfl, (blk_cell BK280.out 1).trans rfl, (blk_cell BK277.out 0).trans rfl, (blk_cell BK277.out 1).trans rfl, (blk_cell BK276.out 0).trans rfl, (blk_cell BK276.out 1).trans rfl, (blk_cell BK285.out 0).trans rfl, (blk_cell BK285.out 1).trans rfl, (blk_cell BK290.out 0).trans rfl, (blk_cell BK290.out 1).trans rfl, (blk_cell BK301.out 0).trans rfl, (blk_cell BK301.out 1).trans rfl, (blk_cell BK305.out 0).trans rfl, (blk_cell BK305.out 1).trans rfl⟩ (fun hHeld => ?_)
                    clear hK K
                    refine norm_ (a' := ?_) ?_ ?_
                    rotate_left
                    · show Act.put _ (some 86) _ = _
                      simp only [Act.put, List.setIfInBounds_toArray, List.set_cons_zero, List.set_cons_succ, i64_w, i32_w]
                      rfl
                    refine one_ (i := 43) (N := some 89) #[true, true, true, true, true, true, true, true, true, true, true, true, true, true, true, true, true, true, true, true, true, true, true, true, true, true, true, true, true, true, true, true, true, true, true, true, true, true, true, true, true, true, true, true, false, false, false, false, false, false, false] rfl rfl (one_of HT_.out (by kernel_rfl)) (by decide) (fun K hK => ?_)
                    refine goes_ Try.func51 (by kernel_rfl) rfl #[.agg #[.int .i64 t274, .int .i64 t275], .agg #[.int .i64 t272, .int .i64 t273]] (by rfl) rfl rfl (by (try simp only [List.map_toArray, List.map_cons, List.map_nil]); first | done | rfl | (simp only [List.length_drop, List.length_take]; rfl)) ?_
                    with_reducible refine (impl_TwoAdd.calls t274 t275 t272 t273 t316 t317 _ A76.out).mono ?_
                    rintro e w132 ⟨rfl, hb⟩
                    refine ⟨_, rfl, ?_⟩
                    have n0_ := Aside0.mk (Kd.R_below (by (with_reducible repeat (first | apply Kd.R_alloc | apply Kd.R_drewN | apply Kd.R_drew)); exact HO293.out) hb)
                    have n1_ := Aside0.mk (blk_below (g := gb276) (o := .cells #[.int .i64 t272, .int .i64 t273] 50 (0, 0)) (by exact BK276.out) hb)
                    have n2_ := Aside0.mk (blk_below (g := gb277) (o := .cells #[.int .i64 t274, .int .i64 t275] 50 (0, 0)) (by exact BK277.out) hb)
                    have n3_ := Aside0.mk (blk_below (g := gb280) (o := .cells #[.int .i64 t278, .int .i64 t279] 50 (0, 0)) (by exact BK280.out) hb)
                    have n4_ := Aside0.mk (blk_below (g := gb285) (o := .cells #[.int .i64 t283, .int .i64 t284] 50 (0, 0)) (by exact BK285.out) hb)
                    have n5_ := Aside0.mk (blk_below (g := gb290) (o := .cells #[.int .i64 t288, .int .i64 t289] 50 (0, 0)) (by exact BK290.out) hb)
                    have n6_ := Aside0.mk (blk_below (g := gb301) (o := .cells #[.int .i64 t299, .int .i64 t300] 50 (0, 0)) (by exact BK301.out) hb)
                    have n7_ := Aside0.mk (blk_below (g := gb305) (o := .cells #[.int .i64 t302, .int .i64 t303] 50 (0, 0)) (by exact BK305.out) hb)
                    have n8_ := Aside0.mk (below_step (by repeat (first | (with_reducible first | exact HB.out | apply below_alloc | apply pw_below_drewN | apply below_drew1 | refine below_set ?_ GE276.out | refine below_set ?_ GE277.out | refine below_set ?_ GE280.out | refine below_set ?_ GE285.out | refine below_set ?_ GE290.out | refine below_set ?_ GE301.out | refine below_set ?_ GE305.out) | exact HB.out)) hb)
                    clear HO293
                    clear BK276
                    clear BK277
                    clear BK280
                    clear BK285
                    clear BK290
                    clear BK301
                    clear BK305
                    clear HB
                    have HO293 := n0_
                    have BK276 := n1_
                    have BK277 := n2_
                    have BK280 := n3_
                    have BK285 := n4_
                    have BK290 := n5_
                    have BK301 := n6_
                    have BK305 := n7_
                    have HB := n8_
                    clear n0_ n1_ n2_ n3_ n4_ n5_ n6_ n7_ n8_
                    (try clear hb)
                    (try clear hb2)
                    (try clear hk)
                    (try clear hi)
                    refine hK.out _ _ ⟨(blk_cell BK280.out 0).trans rfl, (blk_cell BK280.out 1).trans rfl, (blk_cell BK277.out 0).trans rfl, (blk_cell BK277.out 1).trans rfl, (blk_cell BK276.out 0).trans rfl, (blk_cell BK276.out 1).trans rfl, (blk_cell BK285.out 0).trans rfl, (blk_cell BK285.out 1).trans rfl, (blk_cell BK290.out 0).trans rfl, (blk_cell BK290.out 1).trans rfl, (blk_cell BK301.out 0).trans rfl, (blk_cell BK301.out 1).trans rfl, (blk_cell BK305.out 0).trans rfl, (blk_cell BK305.out 1).trans rfl⟩ (fun hHeld => ?_)
                    clear hK K
                    refine norm_ (a' := ?_) ?_ ?_
                    rotate_left
                    · show Act.put _ (some 89) _ = _
                      simp only [Act.put, List.setIfInBounds_toArray, List.set_cons_zero, List.set_cons_succ, i64_w, i32_w]
                      rfl
                    refine pure_ (i := 44) (N := some 90) (v := ?_) (a' := ?_) #[true, true, true, true, true, true, true, true, true, true, true, true, true, true, true, true, true, true, true, true, true, true, true, true, true, true, true, true, true, true, true, true, true, true, true, true, true, true, true, true, true, true, true, true, true, false, false, false, false, false, false] rfl rfl (any_of HT_.out (by kernel_rfl)) (fun _ _ _ h => h) (Or.inl ⟨by rfl, ?_⟩) ?_ ?_
                    rotate_left
                    · intro w'
                      go_simp
                      with_reducible rfl
                    rotate_left
                    · simp only [Act.put, List.setIfInBounds_toArray, List.set_cons_zero, List.set_cons_succ, i64_w, i32_w]
                      rfl
                    refine pure_ (i := 45) (N := some 91) (v := ?_) (a' := ?_) #[true, true, true, true, true, true, true, true, true, true, true, true, true, true, true, true, true, true, true, true, true, true, true, true, true, true, true, true, true, true, true, true, true, true, true, true, true, true, true, true, true, true, true, true, true, true, false, false, false, false, false] rfl rfl (any_of HT_.out (by kernel_rfl)) (fun _ _ _ h => h) (Or.inl ⟨by rfl, ?_⟩) ?_ ?_
                    rotate_left
                    · intro w'
                      go_simp
                      with_reducible rfl
                    rotate_left
                    · simp only [Act.put, List.setIfInBounds_toArray, List.set_cons_zero, List.set_cons_succ, i64_w, i32_w]
                      rfl
                    refine pure_ (i := 46) (N := some 92) (v := ?_) (a' := ?_) #[true, true, true, true, true, true, true, true, true, true, true, true, true, true, true, true, true, true, true, true, true, true, true, true, true, true, true, true, true, true, true, true, true, true, true, true, true, true, true, true, true, true, true, true, true, true, true, false, false, false, false] rfl rfl (any_of HT_.out (by kernel_rfl)) (fun _ _ _ h => h) (Or.inl ⟨by rfl, ?_⟩) ?_ ?_
                    rotate_left
                    · intro w'
                      go_simp
                      with_reducible rfl
                    rotate_left
                    · simp only [Act.put, List.setIfInBounds_toArray, List.set_cons_zero, List.set_cons_succ, i64_w, i32_w]
                      rfl
                    refine take_ (i := 47) (N := some 93) (v := ?_) (a' := ?_) #[true, true, true, true, true, true, true, true, true, true, true, true, true, true, true, true, true, true, true, true, true, true, true, true, true, true, true, true, true, true, true, true, true, true, true, true, true, true, true, true, true, true, true, true, true, true, true, true, false, false, false] rfl rfl (take_ofW HT_.out HW_.out (by kernel_rfl)) (fun _ _ _ h => h) (Or.inl ⟨by rfl, ?_⟩) hHeld ?_ ?_
                    rotate_left
                    · rintro w' ⟨s0, s1, s2, s3, s4, s5, s6, s7, s8, s9, s10, s11, s12, s13⟩
                      go_simp
                      with_reducible rfl
                    rotate_left
                    · simp only [Act.put, List.setIfInBounds_toArray, List.set_cons_zero, List.set_cons_succ, i64_w, i32_w]
                      rfl
                    refine one_ (i := 48) (N := some 94) #[true, true, true, true, true, true, true, true, true, true, true, true, true, true, true, true, true, true, true, true, true, true, true, true, true, true, true, true, true, true, true, true, true, true, true, true, true, true, true, true, true, true, true, true, true, true, true, true, true, false, false] rfl rfl (one_of HT_.out (by kernel_rfl)) (by decide) (fun K hK => ?_)
                    refine goes_ Try.func52 (by kernel_rfl) rfl #[.agg #[.int .i64 t278, .int .i64 t279]] (by rfl) rfl rfl (by (try simp only [List.map_toArray, List.map_cons, List.map_nil]); first | done | rfl | (simp only [List.length_drop, List.length_take]; rfl)) ?_
                    with_reducible refine (impl_TwoOk.calls t278 t279 t318 _ A78.out).mono ?_
                    rintro e w133 ⟨rfl, hb⟩
                    refine ⟨_, rfl, ?_⟩
                    have n0_ := Aside0.mk (Kd.R_below (by (with_reducible repeat (first | apply Kd.R_alloc | apply Kd.R_drewN | apply Kd.R_drew)); exact HO293.out) hb)
                    have n1_ := Aside0.mk (blk_below (g := gb276) (o := .cells #[.int .i64 t272, .int .i64 t273] 50 (0, 0)) (by exact BK276.out) hb)
                    have n2_ := Aside0.mk (blk_below (g := gb277) (o := .cells #[.int .i64 t274, .int .i64 t275] 50 (0, 0)) (by exact BK277.out) hb)
                    have n3_ := Aside0.mk (blk_below (g := gb280) (o := .cells #[.int .i64 t278, .int .i64 t279] 50 (0, 0)) (by exact BK280.out) hb)
                    have n4_ := Aside0.mk (blk_below (g := gb285) (o := .cells #[.int .i64 t283, .int .i64 t284] 50 (0, 0)) (by exact BK285.out) hb)
                    have n5_ := Aside0.mk (blk_below (g := gb290) (o := .cells #[.int .i64 t288, .int .i64 t289] 50 (0, 0)) (by exact BK290.out) hb)
                    have n6_ := Aside0.mk (blk_below (g := gb301) (o := .cells #[.int .i64 t299, .int .i64 t300] 50 (0, 0)) (by exact BK301.out) hb)
                    have n7_ := Aside0.mk (blk_below (g := gb305) (o := .cells #[.int .i64 t302, .int .i64 t303] 50 (0, 0)) (by exact BK305.out) hb)
                    have n8_ := Aside0.mk (below_step (by repeat (first | (with_reducible first | exact HB.out | apply below_alloc | apply pw_below_drewN | apply below_drew1 | refine below_set ?_ GE276.out | refine below_set ?_ GE277.out | refine below_set ?_ GE280.out | refine below_set ?_ GE285.out | refine below_set ?_ GE290.out | refine below_set ?_ GE301.out | refine below_set ?_ GE305.out) | exact HB.out)) hb)
                    clear HO293
                    clear BK276
                    clear BK277
                    clear BK280
                    clear BK285
                    clear BK290
                    clear BK301
                    clear BK305
                    clear HB
                    have HO293 := n0_
                    have BK276 := n1_
                    have BK277 := n2_
                    have BK280 := n3_
                    have BK285 := n4_
                    have BK290 := n5_
                    have BK301 := n6_
                    have BK305 := n7_
                    have HB := n8_
                    clear n0_ n1_ n2_ n3_ n4_ n5_ n6_ n7_ n8_
                    (try clear hb)
                    (try clear hb2)
                    (try clear hk)
                    (try clear hi)
                    refine hK.out _ _ ⟨(blk_cell BK280.out 0).trans rfl, (blk_cell BK280.out 1).trans rfl, (blk_cell BK277.out 0).trans rfl, (blk_cell BK277.out 1).trans rfl, (blk_cell BK276.out 0).trans rfl, (blk_cell BK276.out 1).trans rfl, (blk_cell BK285.out 0).trans rfl, (blk_cell BK285.out 1).trans rfl, (blk_cell BK290.out 0).trans rfl, (blk_cell BK290.out 1).trans rfl, (blk_cell BK301.out 0).trans rfl, (blk_cell BK301.out 1).trans rfl, (blk_cell BK305.out 0).trans rfl, (blk_cell BK305.out 1).trans rfl⟩ (fun hHeld => ?_)
                    clear hK K
                    refine norm_ (a' := ?_) ?_ ?_
                    rotate_left
                    · show Act.put _ (some 94) _ = _
                      simp only [Act.put, List.setIfInBounds_toArray, List.set_cons_zero, List.set_cons_succ, i64_w, i32_w]
                      rfl
                    refine pure_ (i := 49) (N := some 95) (v := ?_) (a' := ?_) #[true, true, true, true, true, true, true, true, true, true, true, true, true, true, true, true, true, true, true, true, true, true, true, true, true, true, true, true, true, true, true, true, true, true, true, true, true, true, true, true, true, true, true, true, true, true, true, true, true, true, false] rfl rfl (any_of HT_.out (by kernel_rfl)) (fun _ _ _ h => h) (Or.inl ⟨by rfl, ?_⟩) ?_ ?_
                    rotate_left
                    · intro w'
                      go_simp
                      with_reducible rfl
                    rotate_left
                    · simp only [Act.put, List.setIfInBounds_toArray, List.set_cons_zero, List.set_cons_succ, i64_w, i32_w]
                      rfl
                    refine pure_ (i := 50) (N := some 2) (v := ?_) (a' := ?_) #[true, true, true, true, true, true, true, true, true, true, true, true, true, true, true, true, true, true, true, true, true, true, true, true, true, true, true, true, true, true, true, true, true, true, true, true, true, true, true, true, true, true, true, true, true, true, true, true, true, true, true] rfl rfl (any_of HT_.out (by kernel_rfl)) (fun _ _ _ h => h) (Or.inl ⟨by rfl, ?_⟩) ?_ ?_
                    rotate_left
                    · intro w'
                      go_simp
                      with_reducible rfl
                    rotate_left
                    · simp only [Act.put, List.setIfInBounds_toArray, List.set_cons_zero, List.set_cons_succ, i64_w, i32_w]
                      rfl
                    refine done_ (done_of HT_.out (by kernel_rfl)) ?_
                    try go_wp2
                    go_ret
                    exact ⟨by first | rfl | (simp [errW_none, errW_some] <;> rfl) | (simp [*, errW_none, errW_some] <;> rfl), by repeat (first | (with_reducible first | exact HB.out | apply below_alloc | apply pw_below_drewN | apply below_drew1 | refine below_set ?_ GE276.out | refine below_set ?_ GE277.out | refine below_set ?_ GE280.out | refine below_set ?_ GE285.out | refine below_set ?_ GE290.out | refine below_set ?_ GE301.out | refine below_set ?_ GE305.out) | exact HB.out)⟩
                  · rw [if_neg c77] at H
                    have c77b0 : (t314 == t316 && (t315 == t317)) = false := by simpa using c77
                    (try (have c77b1 : decide (t314 = t316 && (t315 == t317)) = false := by simpa using c77))
                    (try (have c77b2 : (t314 == t316 && (t315 == t317)) = false := by simpa using c77))
                    (try (have c77b3 : ¬ (t314 = t316 && (t315 == t317)) := by simpa using c77))
                    clear c77
                    exact absurd ((Option.some.inj H).trans HR.out) (by decide)
                · rw [if_neg c74] at H
                  have c74b0 : (t310 == t312 && (t311 == t313)) = false := by simpa using c74
                  (try (have c74b1 : decide (t310 = t312 && (t311 == t313)) = false := by simpa using c74))
                  (try (have c74b2 : (t310 == t312 && (t311 == t313)) = false := by simpa using c74))
                  (try (have c74b3 : ¬ (t310 = t312 && (t311 == t313)) := by simpa using c74))
                  clear c74
                  exact absurd ((Option.some.inj H).trans HR.out) (by decide)
              · rw [if_neg c71] at H
                have c71b0 : (t299 == t308 && (t300 == t309)) = false := by simpa using c71
                (try (have c71b1 : decide (t299 = t308 && (t300 == t309)) = false := by simpa using c71))
                (try (have c71b2 : (t299 == t308 && (t300 == t309)) = false := by simpa using c71))
                (try (have c71b3 : ¬ (t299 = t308 && (t300 == t309)) := by simpa using c71))
                clear c71
                exact absurd ((Option.some.inj H).trans HR.out) (by decide)
            · rw [if_neg c69] at H
              have c69b0 : (t288 == 1 && (t289 == 0)) = false := by simpa using c69
              (try (have c69b1 : decide (t288 = 1 && (t289 == 0)) = false := by simpa using c69))
              (try (have c69b2 : (t288 == 1 && (t289 == 0)) = false := by simpa using c69))
              (try (have c69b3 : ¬ (t288 = 1 && (t289 == 0)) := by simpa using c69))
              clear c69
              exact absurd ((Option.some.inj H).trans HR.out) (by decide)
        · rw [if_neg c18] at H
          have c18b0 : (t284 == 0) = false := beq_eq_false_iff_ne.mpr c18
          have c18b1 : (t284 != 0) = true := bne_iff_ne.mpr c18
          exact absurd ((Option.some.inj H).trans HR.out) (by decide)
      · rw [if_neg c17] at H
        have c17b0 : (t278 == t306 && (t279 == t307)) = false := by simpa using c17
        (try (have c17b1 : decide (t278 = t306 && (t279 == t307)) = false := by simpa using c17))
        (try (have c17b2 : (t278 == t306 && (t279 == t307)) = false := by simpa using c17))
        (try (have c17b3 : ¬ (t278 = t306 && (t279 == t307)) := by simpa using c17))
        clear c17
        exact absurd ((Option.some.inj H).trans HR.out) (by decide)
    · rw [if_neg c11] at H
      exact absurd H (by simp)

/-- THE ONE PURE STATEMENT of laws_FnTwos: yours. -/
def laws_FnTwos.Pure : Prop := ∀ (l0 : List Int), l0.length ≤ maxLen → l0.length * 1 ≤ 140737488351232 → (∀ x ∈ l0, (Lit.int .u8 x).wf = true) → ∃ k, laws_FnTwos.f k l0 = some true
theorem laws_FnTwos.walk (P : laws_FnTwos.Pure) (a0 : Option Addr) (len0 cap0 : Nat) (z0 : List Int) (w : World) (w0 : (a0 = none ∧ len0 = 0 ∧ cap0 = 0 ∧ z0 = []) ∨ ∃ x, a0 = some x ∧ len0 ≤ cap0 ∧ cap0 ≤ maxLen ∧ z0.length = cap0 ∧ (∀ i, i < z0.length → w.cell? (x.add i) = some (.int .u8 (z0.getD i 0))) ∧ ∀ n ∈ z0, (Lit.int .u8 n).wf = true) (y0 : len0 * 1 ≤ 140737488351232) :
    Calls Try.prog 9 #[.slice a0 len0 cap0] w fun e w' => e = .returned (.bool true) ∧ Below w.heap.size w w' := by
  obtain ⟨l0, rfl, hr0, hm0, hw0, hc0⟩ := ReadsInt.ofRowC w0
  obtain ⟨k, h⟩ := P l0 hm0 y0 hw0
  refine (laws_FnTwos.calls k _ _ l0 true w (Kd.C_of_reads (d := (0 : Int)) (h1 := fun _ => rfl) hr0) hc0 h rfl).mono ?_
  rintro e w' ⟨rfl, hd⟩
  exact ⟨rfl, hd⟩

end Go.Proofs.Ytfigfpfgeoadbaa.PFnTwos
