/- What the two laid tables give a walk. Conditions: none. -/
import Derived.Test.YtakejfhfkjnhlaaDoorRows
import Derived.Test.YtakejfhfkjnhlaaDoorKecI
import Derived.ProofKit
import Derived.OpenShut
import Derived.LaidMore
import Derived.Lay
import Derived.Stop.Joined
set_option linter.unusedVariables false
namespace Go.Proofs.YtakejfhfkjnhlaaDoor.KW
open Go.ChangeShapes Go.WideShapes Go.ChangeAt Go.RowKit Go.Proofs.YtakejfhfkjnhlaaDoorW.PrintWords Go.Proofs.YtakejfhfkjnhlaaDoorW.PrintMore Go.Proofs.YtakejfhfkjnhlaaDoor.M
theorem own : ownKnob Tryd.prog.godebug = none := by kernel_rfl
def laids : List (String × DataW Unit) := [("loop.example/g00321/impl.roundConstants", Rows.laid_loop_example_g00321_impl_roundConstants), ("loop.example/g00321/impl.turns", Rows.laid_loop_example_g00321_impl_turns)]
theorem laid_cell {enc : TypeId × Value → Unit} {W : World} {b : Nat} {sp : Nat → Bool} {held : Bool} {fuel : Nat} {t e : TypeId} {n : Nat} {k : IntKind} {cs : Array Value} {ps : List MemPlace} (L : List Int)
    (ht : Tryd.prog.underlying t = some (.array n e)) (he : Tryd.prog.underlying e = some (.int k)) (hc : Tryd.prog.cellsOf e = 1) (hL : L.length = n)
    (hd : DataW.trod enc Tryd.prog W b sp held fuel t cs.toList = some (.agg (L.map fun z => .lit (.int k z)), ps)) (r : Nat) (hr : r < n) : cs[r]? = some (.int k (rd L (r : Int))) := by
  obtain ⟨xs, m, _, ex, _, hl, hel⟩ := DataW.trod_array ht hd
  have hE := hel r hr
  rw [hc, Nat.mul_one, List.getElem?_eq_getElem (by omega)] at hE
  obtain ⟨z, e1, e2, _⟩ := DataW.trod_int he hE
  have e3 : (xs.map (·.1)) = L.map fun n => .lit (.int k n) := (DataW.agg.inj (Prod.mk.inj ex).1).symm
  have e4 : (xs.map (·.1))[r]? = (L.map fun n => (DataW.lit (.int k n) : DataW Unit))[r]? := by rw [e3]
  rw [List.getElem?_map, List.getElem?_map, List.getElem?_eq_getElem (by omega : r < xs.length), List.getElem?_eq_getElem (by omega : r < L.length), e2] at e4
  have hz : z = rd L (r : Int) := by
    simp only [Option.map_some, Option.some.injEq, DataW.lit.injEq, Lit.int.injEq, true_and] at e4
    rw [e4, rd_nat, List.getElem?_eq_getElem (by omega : r < L.length)]; rfl
  rw [← hz]
  have : cs.toList[r]? = some (.int k z) := by
    have h0 : ((cs.toList.drop r).take 1)[0]? = some (.int k z) := by rw [e1]; rfl
    simpa using h0
  simpa using this
theorem of_laid {W : World} (h : laidMetH Tryd.prog laids W) : LaidW W := by
  rw [MakeChecks.laidMetH_plain _ _ _ (by kernel_rfl)] at h
  obtain ⟨ps, ⟨g0, t0, cs0, f0, p0, q0, hg0, ht0, hv0, hd0, ⟨g1, t1, cs1, f1, p1, q1, hg1, ht1, hv1, hd1, _, _⟩, _⟩, _, _⟩ := h
  obtain rfl := Option.some.inj ((show Tryd.prog.globalNamed "loop.example/g00321/impl.roundConstants" = some 1 by kernel_rfl).symm.trans hg0)
  obtain rfl := Option.some.inj ((show Tryd.prog.globalNamed "loop.example/g00321/impl.turns" = some 0 by kernel_rfl).symm.trans hg1)
  obtain rfl := Option.some.inj ((show (Tryd.prog.globals[1]?).map (·.type) = some 44 by kernel_rfl).symm.trans ht0)
  obtain rfl := Option.some.inj ((show (Tryd.prog.globals[0]?).map (·.type) = some 67 by kernel_rfl).symm.trans ht1)
  refine ⟨fun m hm => ?_, fun n hn => ?_⟩
  · rw [World.var?_cell hg1 hv1 m, laid_cell offL Tryd.underlying67 Tryd.underlying3 (by kernel_rfl) rfl hd1 m hm, offL_at]
  · rw [World.var?_cell hg0 hv0 n]
    exact laid_cell rcL Tryd.underlying44 Tryd.underlying37 (by kernel_rfl) rfl hd0 n hn
theorem two_vars {H : Type} {enc : TypeId × Value → H} {W : World} {sp : Nat → Bool} {a b : String} {gs : List (DataW H)} {q : List MemPlace} (h : DataW.TrodVars enc Tryd.prog W sp [a, b] gs q) : ∃ d1 d2, gs = [d1, d2] := by
  match gs, h with
  | [], h => exact h.elim
  | [_], ⟨_, _, _, _, _, _, _, _, _, _, h2, _⟩ => exact h2.elim
  | [d1, d2], _ => exact ⟨d1, d2, rfl⟩
  | _ :: _ :: _ :: _, ⟨_, _, _, _, _, _, _, _, _, _, ⟨_, _, _, _, _, _, _, _, _, _, h3, _⟩, _⟩ => exact h3.elim
end Go.Proofs.YtakejfhfkjnhlaaDoor.KW
