/- Walks: the laws of KeccakRound and KeccakF. Conditions: none. -/
import Derived.Test.YtakejfhfkjnhlaaDoorKecI
set_option linter.unusedVariables false
set_option linter.unusedSimpArgs false
namespace Go.Proofs.YtakejfhfkjnhlaaDoor.KW
open Go.RowKit Go.Proofs.YtakejfhfkjnhlaaDoorW.PrintWords Go.Proofs.YtakejfhfkjnhlaaDoorW.PrintLast Go.Proofs.YtakejfhfkjnhlaaDoorW.PrintMore
open Go.Proofs.YtakejfhfkjnhlaaDoor.M Go.Proofs.YtakejfhfkjnhlaaDoor.PFnExactKeccakRound
set_option maxHeartbeats 8000000 in
set_option maxRecDepth 100000 in
theorem lawKR (s : ByteArray) (n : Int) (w : World) (hL : LaidW w) : Calls Tryd.prog 4 #[.string s, .int .i64 n] w fun e w' => e = .returned (.bool true) ∧ Below w.heap.size w w' := by
  by_cases c : (s.size : Int) > 1048576
  · have b0 : decide (1048576 < (s.size : Int)) = true := decide_eq_true c
    have b1 : decide (1048576 < s.size) = true := decide_eq_true (by omega)
    clear c
    go_enter Tryd.func4, Tryd.ntmps4
    go_wp2
    go_ret
    exact ⟨rfl, Below.refl _ _⟩
  · have b0 : decide (1048576 < (s.size : Int)) = false := decide_eq_false c
    have b1 : decide (1048576 < s.size) = false := decide_eq_false (by omega)
    have LW : Aside0 (LaidW w) := ⟨hL⟩
    clear c hL
    go_enter Tryd.func4, Tryd.ntmps4
    go_wp2_with (first
      | ((with_reducible refine gate_callee (f := 12) rfl ?_); refine goesL_ (some 12) rfl rfl Tryd.func12 (by kernel_rfl) rfl #[.string s, .int .i64 n] rfl (by (try simp only [List.map_toArray, List.map_cons, List.map_nil]); first | done | rfl) ?_; (with_reducible refine (specKR s n _).mono ?_); rintro e wa ⟨rfl, BA⟩; refine ⟨_, rfl, ?_⟩)
      | ((with_reducible refine gate_callee (f := 13) rfl ?_); refine goesL_ (some 15) rfl rfl Tryd.func13 (by kernel_rfl) rfl #[.string s, .int .i64 n] rfl (by (try simp only [List.map_toArray, List.map_cons, List.map_nil]); first | done | rfl) ?_; (with_reducible refine (implKR s n _ (LW.out.grown (below_grown BA) (by simp) (by simp))).mono ?_); rintro e wb ⟨rfl, BB⟩; refine ⟨_, rfl, ?_⟩))
    go_ret
    exact ⟨rfl, grown_below (grown_trans (below_grown BA) (below_grown BB) (by simp))⟩
set_option maxHeartbeats 8000000 in
set_option maxRecDepth 100000 in
theorem lawKF (s : ByteArray) (w : World) (hL : LaidW w) : Calls Tryd.prog 5 #[.string s] w fun e w' => e = .returned (.bool true) ∧ Below w.heap.size w w' := by
  by_cases c : (s.size : Int) > 1048576
  · have b0 : decide (1048576 < (s.size : Int)) = true := decide_eq_true c
    have b1 : decide (1048576 < s.size) = true := decide_eq_true (by omega)
    clear c
    go_enter Tryd.func5, Tryd.ntmps5
    go_wp2
    go_ret
    exact ⟨rfl, Below.refl _ _⟩
  · have b0 : decide (1048576 < (s.size : Int)) = false := decide_eq_false c
    have b1 : decide (1048576 < s.size) = false := decide_eq_false (by omega)
    have LW : Aside0 (LaidW w) := ⟨hL⟩
    clear c hL
    go_enter Tryd.func5, Tryd.ntmps5
    go_wp2_with (first
      | ((with_reducible refine gate_callee (f := 14) rfl ?_); refine goesL_ (some 9) rfl rfl Tryd.func14 (by kernel_rfl) rfl #[.string s] rfl (by (try simp only [List.map_toArray, List.map_cons, List.map_nil]); first | done | rfl) ?_; (with_reducible refine (specKF s _).mono ?_); rintro e wa ⟨rfl, BA⟩; refine ⟨_, rfl, ?_⟩)
      | ((with_reducible refine gate_callee (f := 15) rfl ?_); refine goesL_ (some 11) rfl rfl Tryd.func15 (by kernel_rfl) rfl #[.string s] rfl (by (try simp only [List.map_toArray, List.map_cons, List.map_nil]); first | done | rfl) ?_; (with_reducible refine (implKF s _ (LW.out.grown (below_grown BA) (by simp) (by simp))).mono ?_); rintro e wb ⟨rfl, BB⟩; refine ⟨_, rfl, ?_⟩))
    go_ret
    exact ⟨rfl, grown_below (grown_trans (below_grown BA) (below_grown BB) (by simp))⟩
end Go.Proofs.YtakejfhfkjnhlaaDoor.KW
