/- Walks: KeccakRound and KeccakF of the reference. Conditions: none. -/
import Derived.Test.YtakejfhfkjnhlaaDoorKecF
import Derived.Test.YtakejfhfkjnhlaaDoorWGuard
set_option linter.unusedVariables false
set_option linter.unusedSimpArgs false
namespace Go.Proofs.YtakejfhfkjnhlaaDoor.KW
open Go.RowKit Go.Proofs.YtakejfhfkjnhlaaDoorW.PrintWords Go.Proofs.YtakejfhfkjnhlaaDoorW.PrintLast Go.Proofs.YtakejfhfkjnhlaaDoorW.PrintMore
open Go.Proofs.YtakejfhfkjnhlaaDoor.M Go.Proofs.YtakejfhfkjnhlaaDoor.PFnExactKeccakRound
def krF (s : ByteArray) (n : Int) : ByteArray := if s.size = 200 ∧ 0 ≤ n ∧ n ≤ 23 then strOfNums (textL (rndL (loadL s) (rd rcL n))) else s
def kfF (s : ByteArray) : ByteArray := if s.size = 200 then strOfNums (textL (allL (loadL s) 24)) else s
theorem sized (s : ByteArray) (h : s.size = 200) : ((s.size : Int) == 200) = true ∧ ((s.size : Int) != 200) = false := by simp [h]
theorem unsized (s : ByteArray) (h : ¬ s.size = 200) : ((s.size : Int) == 200) = false ∧ ((s.size : Int) != 200) = true := by
  have h1 : ¬ (s.size : Int) = 200 := by omega
  simp [h1]
theorem inCall (n : Int) (W : World) : Calls Tryd.prog 30 #[.int .i64 n, .int .i64 0, .int .i64 23] W fun e w' => e = .returned (.bool (decide (0 ≤ n ∧ n ≤ 23))) ∧ ∃ m, w' = W.drewN m := by
  refine (spec_l01In.calls n 0 23 (decide (0 ≤ n ∧ n ≤ 23)) W ?_).mono fun e w' h => ⟨h.1, h.2.out⟩
  unfold spec_l01In.f
  by_cases h : n ≥ 0
  · rw [if_pos h]
    have e : (0 ≤ n ∧ n ≤ 23) ↔ n ≤ 23 := ⟨fun x => x.2, fun x => ⟨h, x⟩⟩
    simp [e]
  · rw [if_neg h, show decide (0 ≤ n ∧ n ≤ 23) = false from decide_eq_false (fun x => h x.1)]
theorem rcIndex (n : Int) (h0 : 0 ≤ n) (h1 : n ≤ 23) : ∀ w : World, (Instr.index 44 (.agg (nums .u64 rcL).toArray) (.int .i64 n)).run Tryd.prog w = .ok (.int .u64 (rd rcL n)) w := by
  obtain ⟨k, rfl⟩ := Int.eq_ofNat_of_zero_le h0
  have h2 : k < 24 := by omega
  intro w
  rcases k with _ | _ | _ | _ | _ | _ | _ | _ | _ | _ | _ | _ | _ | _ | _ | _ | _ | _ | _ | _ | _ | _ | _ | _ | k
  all_goals first | omega | kernel_rfl
set_option maxHeartbeats 8000000 in
set_option maxRecDepth 100000 in
theorem specKR (s : ByteArray) (n : Int) (w : World) : Calls Tryd.prog 12 #[.string s, .int .i64 n] w fun e w' => e = .returned (.string (krF s n)) ∧ Below w.heap.size w w' := by
  by_cases c1 : s.size = 200
  · have c1b := sized s c1
    obtain ⟨b1, b2⟩ := c1b
    have AI := Aside0.mk (inCall n)
    by_cases c2 : 0 ≤ n ∧ n ≤ 23
    · rw [show krF s n = strOfNums (textL (rndL (loadL s) (rd rcL n))) from if_pos ⟨c1, c2⟩]
      rw [show decide (0 ≤ n ∧ n ≤ 23) = true from decide_eq_true c2] at AI
      have HI := rcIndex n c2.1 c2.2
      have A1 : Aside0 (∀ W, Calls Tryd.prog 33 #[.string s] W fun e w' => e = .returned (.agg (nums .u64 (loadL s)).toArray) ∧ Below W.heap.size W w') := ⟨specLoad s c1⟩
      have A2 : Aside0 (∀ W, Calls Tryd.prog 32 #[.agg (nums .u64 (loadL s)).toArray, .agg (nums .u64 offL).toArray, .int .u64 (rd rcL n)] W fun e w' => e = .returned (.agg (nums .u64 (rndL (loadL s) (rd rcL n))).toArray) ∧ Below W.heap.size W w') := ⟨specRound _ (loadL_length s) (AllW_load s) _⟩
      have A3 : Aside0 (∀ W, Calls Tryd.prog 31 #[.agg (nums .u64 (rndL (loadL s) (rd rcL n))).toArray] W fun e w' => e = .returned (.string (strOfNums (textL (rndL (loadL s) (rd rcL n))))) ∧ Below W.heap.size W w') := ⟨specText _ (by rw [rndL_length, loadL_length]) (AllW_rnd (AllW_load s) _)⟩
      clear c1 c2
      go_enter Tryd.func12, Tryd.ntmps12
      go_wp2_with (first
        | ((with_reducible refine gate_callee (f := 30) rfl ?_); refine gate_guard (by first | rfl | kernel_rfl) ?_; refine goesL_ (some 10) rfl rfl Tryd.func30 (by kernel_rfl) rfl #[.int .i64 n, .int .i64 0, .int .i64 23] rfl (by (try simp only [List.map_toArray, List.map_cons, List.map_nil]); first | done | rfl) ?_; (with_reducible refine (AI.out _).mono ?_); rintro e w' ⟨rfl, ⟨nd, rfl⟩⟩; refine ⟨_, rfl, ?_⟩)
        | ((with_reducible refine gate_callee (f := 33) rfl ?_); refine goesL_ (some 15) rfl rfl Tryd.func33 (by kernel_rfl) rfl #[.string s] rfl (by (try simp only [List.map_toArray, List.map_cons, List.map_nil]); first | done | rfl) ?_; (with_reducible refine (A1.out _).mono ?_); rintro e wa ⟨rfl, BA⟩; refine ⟨_, rfl, ?_⟩)
        | ((with_reducible refine gate_callee (f := 34) rfl ?_); refine goesL_ (some 16) rfl rfl Tryd.func34 (by kernel_rfl) rfl #[] rfl (by (try simp only [List.map_toArray, List.map_cons, List.map_nil]); first | done | rfl) ?_; (with_reducible refine (specOff _).mono ?_); rintro e wb ⟨rfl, BB⟩; refine ⟨_, rfl, ?_⟩)
        | ((with_reducible refine gate_callee (f := 35) rfl ?_); refine goesL_ (some 17) rfl rfl Tryd.func35 (by kernel_rfl) rfl #[] rfl (by (try simp only [List.map_toArray, List.map_cons, List.map_nil]); first | done | rfl) ?_; (with_reducible refine (specRcs _).mono ?_); rintro e wc ⟨rfl, BC⟩; refine ⟨_, rfl, ?_⟩)
        | ((with_reducible refine gate_callee (f := 32) rfl ?_); refine goesL_ (some 20) rfl rfl Tryd.func32 (by kernel_rfl) rfl #[.agg (nums .u64 (loadL s)).toArray, .agg (nums .u64 offL).toArray, .int .u64 (rd rcL n)] rfl (by (try simp only [List.map_toArray, List.map_cons, List.map_nil]); first | done | rfl) ?_; (with_reducible refine (A2.out _).mono ?_); rintro e wd ⟨rfl, BD⟩; refine ⟨_, rfl, ?_⟩)
        | ((with_reducible refine gate_callee (f := 31) rfl ?_); refine goesL_ (some 21) rfl rfl Tryd.func31 (by kernel_rfl) rfl #[.agg (nums .u64 (rndL (loadL s) (rd rcL n))).toArray] rfl (by (try simp only [List.map_toArray, List.map_cons, List.map_nil]); first | done | rfl) ?_; (with_reducible refine (A3.out _).mono ?_); rintro e we ⟨rfl, BE⟩; refine ⟨_, rfl, ?_⟩))
      go_ret
      exact ⟨rfl, grown_below (grown_trans (grown_trans (grown_trans (grown_trans (grown_trans (grown_drewN (grown_refl w none) nd) (below_grown BA) (by simp)) (below_grown BB) (by simp)) (below_grown BC) (by simp)) (below_grown BD) (by simp)) (below_grown BE) (by simp))⟩
    · rw [show krF s n = s from if_neg (fun x => c2 x.2)]
      rw [show decide (0 ≤ n ∧ n ≤ 23) = false from decide_eq_false c2] at AI
      clear c1 c2
      go_enter Tryd.func12, Tryd.ntmps12
      go_wp2_with (first
        | ((with_reducible refine gate_callee (f := 30) rfl ?_); refine gate_guard (by first | rfl | kernel_rfl) ?_; refine goesL_ (some 10) rfl rfl Tryd.func30 (by kernel_rfl) rfl #[.int .i64 n, .int .i64 0, .int .i64 23] rfl (by (try simp only [List.map_toArray, List.map_cons, List.map_nil]); first | done | rfl) ?_; (with_reducible refine (AI.out _).mono ?_); rintro e w' ⟨rfl, ⟨nd, rfl⟩⟩; refine ⟨_, rfl, ?_⟩))
      go_ret
      exact ⟨rfl, grown_below (grown_drewN (grown_refl w none) nd)⟩
  · obtain ⟨b1, b2⟩ := unsized s c1
    rw [show krF s n = s from if_neg (fun x => c1 x.1)]
    clear c1
    go_enter Tryd.func12, Tryd.ntmps12
    go_wp2
    go_ret
    exact ⟨rfl, Below.refl _ _⟩
set_option maxHeartbeats 8000000 in
set_option maxRecDepth 100000 in
theorem specKF (s : ByteArray) (w : World) : Calls Tryd.prog 14 #[.string s] w fun e w' => e = .returned (.string (kfF s)) ∧ Below w.heap.size w w' := by
  by_cases c1 : s.size = 200
  · obtain ⟨b1, b2⟩ := sized s c1
    rw [show kfF s = strOfNums (textL (allL (loadL s) 24)) from if_pos c1]
    have A1 : Aside0 (∀ W, Calls Tryd.prog 33 #[.string s] W fun e w' => e = .returned (.agg (nums .u64 (loadL s)).toArray) ∧ Below W.heap.size W w') := ⟨specLoad s c1⟩
    have A2 : Aside0 (∀ W, Calls Tryd.prog 39 #[.agg (nums .u64 (loadL s)).toArray] W fun e w' => e = .returned (.agg (nums .u64 (allL (loadL s) 24)).toArray) ∧ Below W.heap.size W w') := ⟨specAll _ (loadL_length s) (AllW_load s)⟩
    have A3 : Aside0 (∀ W, Calls Tryd.prog 31 #[.agg (nums .u64 (allL (loadL s) 24)).toArray] W fun e w' => e = .returned (.string (strOfNums (textL (allL (loadL s) 24)))) ∧ Below W.heap.size W w') := ⟨specText _ (by rw [allL_length, loadL_length]) (AllW_all (AllW_load s) _)⟩
    clear c1
    go_enter Tryd.func14, Tryd.ntmps14
    go_wp2_with (first
      | ((with_reducible refine gate_callee (f := 33) rfl ?_); refine goesL_ (some 8) rfl rfl Tryd.func33 (by kernel_rfl) rfl #[.string s] rfl (by (try simp only [List.map_toArray, List.map_cons, List.map_nil]); first | done | rfl) ?_; (with_reducible refine (A1.out _).mono ?_); rintro e wa ⟨rfl, BA⟩; refine ⟨_, rfl, ?_⟩)
      | ((with_reducible refine gate_callee (f := 39) rfl ?_); refine goesL_ (some 9) rfl rfl Tryd.func39 (by kernel_rfl) rfl #[.agg (nums .u64 (loadL s)).toArray] rfl (by (try simp only [List.map_toArray, List.map_cons, List.map_nil]); first | done | rfl) ?_; (with_reducible refine (A2.out _).mono ?_); rintro e wb ⟨rfl, BB⟩; refine ⟨_, rfl, ?_⟩)
      | ((with_reducible refine gate_callee (f := 31) rfl ?_); refine goesL_ (some 10) rfl rfl Tryd.func31 (by kernel_rfl) rfl #[.agg (nums .u64 (allL (loadL s) 24)).toArray] rfl (by (try simp only [List.map_toArray, List.map_cons, List.map_nil]); first | done | rfl) ?_; (with_reducible refine (A3.out _).mono ?_); rintro e we ⟨rfl, BE⟩; refine ⟨_, rfl, ?_⟩))
    go_ret
    exact ⟨rfl, grown_below (grown_trans (grown_trans (below_grown BA) (below_grown BB) (by simp)) (below_grown BE) (by simp))⟩
  · obtain ⟨b1, b2⟩ := unsized s c1
    rw [show kfF s = s from if_neg c1]
    clear c1
    go_enter Tryd.func14, Tryd.ntmps14
    go_wp2
    go_ret
    exact ⟨rfl, Below.refl _ _⟩
end Go.Proofs.YtakejfhfkjnhlaaDoor.KW
