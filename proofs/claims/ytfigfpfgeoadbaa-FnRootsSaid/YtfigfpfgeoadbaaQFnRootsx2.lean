/- The Go functions of FnRoots as Lean functions, each with its walk: begun as a text of the print, turned where that fell. Conditions: none. -/
import Derived.Test.YtfigfpfgeoadbaaQFnRootsx0
import Derived.Test.YtfigfpfgeoadbaaQFnRootsx1
namespace Go.Proofs.Ytfigfpfgeoadbaa.PFnRoots
open Go.RowKit Go.Proofs.YtfigfpfgeoadbaaW.PrintWords Go.Proofs.YtfigfpfgeoadbaaW.PrintLast Go.Proofs.YtfigfpfgeoadbaaW.PrintMore
attribute [local go_sem] max2_int min2_int max_two min_two max_three min_three max_four min_four   -- for this text's walks alone
set_option linter.unusedVariables false
set_option linter.unusedSimpArgs false

/-! ### spec_FpPow: function 31 -/
def spec_FpPow.l0 : Nat → Int → Int → Int → Option (Int)
  | 0, _, _, _ => none
  | k + 1, x1, x5, x6 => if x1 > 0 then (if (Int.tmod x1 2) = 1 then ((spec_FpMul.f x5 x6).bind fun t172 => ((spec_FpMul.f x6 x6).bind fun t173 => (spec_FpPow.l0 k (wrap64 (Int.tdiv x1 2)) t172 t173))) else ((spec_FpMul.f x6 x6).bind fun t174 => (spec_FpPow.l0 k (wrap64 (Int.tdiv x1 2)) x5 t174))) else (some x5)
def spec_FpPow.f (k : Nat) (a0 : Int) (a1 : Int) : Option (Int) := if a1 < 0 then (some 0) else ((spec_FpOf.f a0).bind fun t171 => (spec_FpPow.l0 k a1 1 t171))
theorem spec_FpPow.mono_l : ∀ k, (∀ y0 y1 y2, LeO (spec_FpPow.l0 k y0 y1 y2) (spec_FpPow.l0 (k + 1) y0 y1 y2))
  | 0 => fun _ _ _ r h => by simp [spec_FpPow.l0] at h
  | k + 1 => by
    have ih0 := spec_FpPow.mono_l k
    · intro y0 y1 y2
      unfold spec_FpPow.l0
      repeat' first
      | (with_reducible exact ih0 _ _ _)
      | (with_reducible exact LeO.refl _)
      | (with_reducible exact LeO.none _)
      | (with_reducible refine LeO.ite ?_ ?_)
      | (with_reducible refine LeO.bind ?_ (fun _ => ?_))
      | exact ih0 _ _ _
      | exact LeO.none _
      | refine LeO.ite ?_ ?_
      | refine LeO.bind ?_ (fun _ => ?_)
theorem spec_FpPow.mono : ∀ a0 a1 k, LeO (spec_FpPow.f k a0 a1) (spec_FpPow.f (k + 1) a0 a1) := by
  intro a0 a1 k
  have ih0 := spec_FpPow.mono_l k
  unfold spec_FpPow.f
  repeat' first
      | (with_reducible exact ih0 _ _ _)
      | (with_reducible exact LeO.refl _)
      | (with_reducible exact LeO.none _)
      | (with_reducible refine LeO.ite ?_ ?_)
      | (with_reducible refine LeO.bind ?_ (fun _ => ?_))
      | exact ih0 _ _ _
      | exact LeO.none _
      | refine LeO.ite ?_ ?_
      | refine LeO.bind ?_ (fun _ => ?_)
set_option maxHeartbeats 8000000 in
set_option maxRecDepth 100000 in
theorem spec_FpPow.calls (k : Nat) (a0 : Int) (a1 : Int) (r : Int) (w : World) (h : spec_FpPow.f k a0 a1 = some r) :
    Calls Try.prog 31 #[.int .i64 a0, .int .i64 a1] w fun e w' => e = .returned (.int .i64 r) ∧ Drawn0 w w' := by
  have H : (if a1 < 0 then (some 0) else ((spec_FpOf.f a0).bind fun t171 => (spec_FpPow.l0 k a1 1 t171))) = some r := h
  clear h
  by_cases c3 : a1 < 0
  · rw [if_pos c3] at H
    have c3b0 : decide (a1 < 0) = true := decide_eq_true c3
    clear c3
    obtain rfl := Option.some.inj H
    go_enter Try.func31, Try.ntmps31
    go_wp2
    go_ret
    exact ⟨by first | rfl | (simp; done) | (simp [*]; done), by repeat (first | exact Drawn0.refl _ | apply Drawn0.step)⟩
  · rw [if_neg c3] at H
    have c3b0 : decide (a1 < 0) = false := decide_eq_false c3
    clear c3
    replace H := Option.bind_eq_some_iff.mp H
    obtain ⟨t171, A40, H⟩ := H
    replace H : (spec_FpPow.l0 k a1 1 t171) = some r := H
    have A4 := Aside0.mk A40
    clear A40
    have H' := Aside0.mk H
    clear H
    go_enter Try.func31, Try.ntmps31
    go_wp2_with (first | ((with_reducible refine gate_callee (f := 79) rfl ?_); refine goesL_ (some 10) rfl rfl Try.func79 (by kernel_rfl) rfl #[.int .i64 a0] rfl (by (try simp only [List.map_toArray, List.map_cons, List.map_nil]); first | done | rfl | (simp only [List.length_drop, List.length_take]; rfl)) ?_; (with_reducible refine (spec_FpOf.calls a0 t171 _ A4.out).mono ?_); rintro e w' ⟨rfl, ⟨nd, rfl⟩⟩; refine ⟨_, rfl, ?_⟩))
    go_loopg [1, 5, 6] k (fun kq v1 v5 v6 w' => ∃ (x1_1 : Int) (x5_1 : Int) (x6_1 : Int), v1 = .int .i64 x1_1 ∧ v5 = .int .i64 x5_1 ∧ v6 = .int .i64 x6_1 ∧ Aside0 (spec_FpPow.l0 kq x1_1 x5_1 x6_1 = some r) ∧ Aside0 (kq ≤ k) ∧ Drawn0 w w')
    case atStart => exact ⟨(a1), (1), (t171), (by first | rfl | (simp; done) | (simp [*]; done)), (by first | rfl | (simp; done) | (simp [*]; done)), (by first | rfl | (simp; done) | (simp [*]; done)), H', ⟨Nat.le_refl _⟩, by repeat (first | exact Drawn0.refl _ | apply Drawn0.step)⟩
    case round =>
      clear H'
      try clear p2
      try clear c3
      try clear c3b0
      obtain ⟨x1_1, x5_1, x6_1, rfl, rfl, rfl, HA, HK1, ⟨m1, rfl⟩⟩ := hrel
      cases gk with
      | zero => exact absurd HA.out (by simp [spec_FpPow.l0])
      | succ k1 =>
        have H := HA.out
        clear HA
        simp only [spec_FpPow.l0] at H
        by_cases c5 : x1_1 > 0
        · rw [if_pos c5] at H
          have c5b0 : decide (0 < x1_1) = true := decide_eq_true c5
          clear c5
          by_cases c6 : (Int.tmod x1_1 2) = 1
          · rw [if_pos c6] at H
            have c6b0 : ((Int.tmod x1_1 2) == 1) = true := beq_iff_eq.mpr c6
            have c6b1 : ((Int.tmod x1_1 2) != 1) = false := bne_eq_false_iff_eq.mpr c6
            clear c6
            replace H := Option.bind_eq_some_iff.mp H
            obtain ⟨t172, A70, H⟩ := H
            replace H : ((spec_FpMul.f x6_1 x6_1).bind fun t173 => (spec_FpPow.l0 k1 (wrap64 (Int.tdiv x1_1 2)) t172 t173)) = some r := H
            have A7 := Aside0.mk A70
            clear A70
            replace H := Option.bind_eq_some_iff.mp H
            obtain ⟨t173, A80, H⟩ := H
            replace H : (spec_FpPow.l0 k1 (wrap64 (Int.tdiv x1_1 2)) t172 t173) = some r := H
            have A8 := Aside0.mk A80
            clear A80
            have H' := Aside0.mk H
            clear H
            go_wp2_with (first | ((with_reducible refine gate_callee (f := 78) rfl ?_); refine goesL_ (some 18) rfl rfl Try.func78 (by kernel_rfl) rfl #[.int .i64 x5_1, .int .i64 x6_1] rfl (by (try simp only [List.map_toArray, List.map_cons, List.map_nil]); first | done | rfl | (simp only [List.length_drop, List.length_take]; rfl)) ?_; (with_reducible refine (spec_FpMul.calls x5_1 x6_1 t172 _ A7.out).mono ?_); rintro e w' ⟨rfl, ⟨nd, rfl⟩⟩; refine ⟨_, rfl, ?_⟩) | ((with_reducible refine gate_callee (f := 78) rfl ?_); refine goesL_ (some 21) rfl rfl Try.func78 (by kernel_rfl) rfl #[.int .i64 x6_1, .int .i64 x6_1] rfl (by (try simp only [List.map_toArray, List.map_cons, List.map_nil]); first | done | rfl | (simp only [List.length_drop, List.length_take]; rfl)) ?_; (with_reducible refine (spec_FpMul.calls x6_1 x6_1 t173 _ A8.out).mono ?_); rintro e w' ⟨rfl, ⟨nd, rfl⟩⟩; refine ⟨_, rfl, ?_⟩))
            go_roundg k1
            case measure => have := HK1.out; omega
            case rel => exact ⟨(wrap64 (Int.tdiv x1_1 2)), (t172), (t173), (by first | rfl | (simp; done) | (simp [*]; done)), (by first | rfl | (simp; done) | (simp [*]; done)), (by first | rfl | (simp; done) | (simp [*]; done)), H', ⟨by have := HK1.out; omega⟩, by repeat (first | exact Drawn0.refl _ | apply Drawn0.step)⟩
          · rw [if_neg c6] at H
            have c6b0 : ((Int.tmod x1_1 2) == 1) = false := beq_eq_false_iff_ne.mpr c6
            have c6b1 : ((Int.tmod x1_1 2) != 1) = true := bne_iff_ne.mpr c6
            replace H := Option.bind_eq_some_iff.mp H
            obtain ⟨t174, A90, H⟩ := H
            replace H : (spec_FpPow.l0 k1 (wrap64 (Int.tdiv x1_1 2)) x5_1 t174) = some r := H
            have A9 := Aside0.mk A90
            clear A90
            have H' := Aside0.mk H
            clear H
            go_wp2_with (first | ((with_reducible refine gate_callee (f := 78) rfl ?_); refine goesL_ (some 21) rfl rfl Try.func78 (by kernel_rfl) rfl #[.int .i64 x6_1, .int .i64 x6_1] rfl (by (try simp only [List.map_toArray, List.map_cons, List.map_nil]); first | done | rfl | (simp only [List.length_drop, List.length_take]; rfl)) ?_; (with_reducible refine (spec_FpMul.calls x6_1 x6_1 t174 _ A9.out).mono ?_); rintro e w' ⟨rfl, ⟨nd, rfl⟩⟩; refine ⟨_, rfl, ?_⟩))
            go_roundg k1
            case measure => have := HK1.out; omega
            case rel => exact ⟨(wrap64 (Int.tdiv x1_1 2)), (x5_1), (t174), (by first | rfl | (simp; done) | (simp [*]; done)), (by first | rfl | (simp; done) | (simp [*]; done)), (by first | rfl | (simp; done) | (simp [*]; done)), H', ⟨by have := HK1.out; omega⟩, by repeat (first | exact Drawn0.refl _ | apply Drawn0.step)⟩
        · rw [if_neg c5] at H
          have c5b0 : decide (0 < x1_1) = false := decide_eq_false c5
          clear c5
          obtain rfl := Option.some.inj H
          go_wp2
          go_ret
          exact ⟨by first | rfl | (simp; done) | (simp [*]; done), by repeat (first | exact Drawn0.refl _ | apply Drawn0.step)⟩

/-! ### spec_FpSub: function 66 -/
def spec_FpSub.f (a0 : Int) (a1 : Int) : Option (Int) := (spec_FpOf.f a0).bind fun t175 => ((spec_FpOf.f a1).bind fun t176 => ((spec_FpOf.f (wrap64 (t175 - t176))).bind fun t177 => (some t177)))
set_option maxHeartbeats 8000000 in
set_option maxRecDepth 100000 in
theorem spec_FpSub.calls (a0 : Int) (a1 : Int) (r : Int) (w : World) (h : spec_FpSub.f a0 a1 = some r) :
    Calls Try.prog 66 #[.int .i64 a0, .int .i64 a1] w fun e w' => e = .returned (.int .i64 r) ∧ Drawn0 w w' := by
  have H : ((spec_FpOf.f a0).bind fun t175 => ((spec_FpOf.f a1).bind fun t176 => ((spec_FpOf.f (wrap64 (t175 - t176))).bind fun t177 => (some t177)))) = some r := h
  clear h
  replace H := Option.bind_eq_some_iff.mp H
  obtain ⟨t175, A30, H⟩ := H
  replace H : ((spec_FpOf.f a1).bind fun t176 => ((spec_FpOf.f (wrap64 (t175 - t176))).bind fun t177 => (some t177))) = some r := H
  have A3 := Aside0.mk A30
  clear A30
  replace H := Option.bind_eq_some_iff.mp H
  obtain ⟨t176, A40, H⟩ := H
  replace H : ((spec_FpOf.f (wrap64 (t175 - t176))).bind fun t177 => (some t177)) = some r := H
  have A4 := Aside0.mk A40
  clear A40
  replace H := Option.bind_eq_some_iff.mp H
  obtain ⟨t177, A50, H⟩ := H
  replace H : (some t177) = some r := H
  have A5 := Aside0.mk A50
  clear A50
  obtain rfl := Option.some.inj H
  go_enter Try.func66, Try.ntmps66
  go_wp2_with (first | ((with_reducible refine gate_callee (f := 79) rfl ?_); refine goesL_ (some 6) rfl rfl Try.func79 (by kernel_rfl) rfl #[.int .i64 a0] rfl (by (try simp only [List.map_toArray, List.map_cons, List.map_nil]); first | done | rfl | (simp only [List.length_drop, List.length_take]; rfl)) ?_; (with_reducible refine (spec_FpOf.calls a0 t175 _ A3.out).mono ?_); rintro e w' ⟨rfl, ⟨nd, rfl⟩⟩; refine ⟨_, rfl, ?_⟩) | ((with_reducible refine gate_callee (f := 79) rfl ?_); refine goesL_ (some 8) rfl rfl Try.func79 (by kernel_rfl) rfl #[.int .i64 a1] rfl (by (try simp only [List.map_toArray, List.map_cons, List.map_nil]); first | done | rfl | (simp only [List.length_drop, List.length_take]; rfl)) ?_; (with_reducible refine (spec_FpOf.calls a1 t176 _ A4.out).mono ?_); rintro e w' ⟨rfl, ⟨nd, rfl⟩⟩; refine ⟨_, rfl, ?_⟩) | ((with_reducible refine gate_callee (f := 79) rfl ?_); refine goesL_ (some 10) rfl rfl Try.func79 (by kernel_rfl) rfl #[.int .i64 (wrap64 (t175 - t176))] rfl (by (try simp only [List.map_toArray, List.map_cons, List.map_nil]); first | done | rfl | (simp only [List.length_drop, List.length_take]; rfl)) ?_; (with_reducible refine (spec_FpOf.calls (wrap64 (t175 - t176)) t177 _ A5.out).mono ?_); rintro e w' ⟨rfl, ⟨nd, rfl⟩⟩; refine ⟨_, rfl, ?_⟩))
  go_ret
  exact ⟨by first | rfl | (simp; done) | (simp [*]; done), by repeat (first | exact Drawn0.refl _ | apply Drawn0.step)⟩

/-! ### spec_FpRoot: function 24 -/
def spec_FpRoot.f (k : Nat) (a0 : Int) : Option (Int × Bool) := (spec_FpPow.f k a0 3027).bind fun t178 => ((spec_FpMul.f t178 t178).bind fun t179 => ((spec_FpOf.f a0).bind fun t180 => (if t179 = t180 then ((spec_FpSub.f 0 t178).bind fun t181 => (if t181 < t178 then ((spec_FpSub.f 0 t178).bind fun t182 => (some (t182, true))) else (some (t178, true)))) else (some (0, false)))))
theorem spec_FpRoot.mono : ∀ a0 k, LeO (spec_FpRoot.f k a0) (spec_FpRoot.f (k + 1) a0) := by
  intro a0 k
  unfold spec_FpRoot.f
  repeat' first
      | (with_reducible exact spec_FpPow.mono _ _ _)
      | (with_reducible exact LeO.refl _)
      | (with_reducible exact LeO.none _)
      | (with_reducible refine LeO.ite ?_ ?_)
      | (with_reducible refine LeO.bind ?_ (fun _ => ?_))
      | exact spec_FpPow.mono _ _ _
      | exact LeO.none _
      | refine LeO.ite ?_ ?_
      | refine LeO.bind ?_ (fun _ => ?_)
set_option maxHeartbeats 8000000 in
set_option maxRecDepth 100000 in
theorem spec_FpRoot.calls (k : Nat) (a0 : Int) (r1 : Int) (r2 : Bool) (w : World) (h : spec_FpRoot.f k a0 = some (r1, r2)) :
    Calls Try.prog 24 #[.int .i64 a0] w fun e w' => e = .returned (.tuple #[.int .i64 r1, .bool r2]) ∧ Drawn0 w w' := by
  have H : ((spec_FpPow.f k a0 3027).bind fun t178 => ((spec_FpMul.f t178 t178).bind fun t179 => ((spec_FpOf.f a0).bind fun t180 => (if t179 = t180 then ((spec_FpSub.f 0 t178).bind fun t181 => (if t181 < t178 then ((spec_FpSub.f 0 t178).bind fun t182 => (some (t182, true))) else (some (t178, true)))) else (some (0, false)))))) = some (r1, r2) := h
  clear h
  replace H := Option.bind_eq_some_iff.mp H
  obtain ⟨t178, A20, H⟩ := H
  replace H : ((spec_FpMul.f t178 t178).bind fun t179 => ((spec_FpOf.f a0).bind fun t180 => (if t179 = t180 then ((spec_FpSub.f 0 t178).bind fun t181 => (if t181 < t178 then ((spec_FpSub.f 0 t178).bind fun t182 => (some (t182, true))) else (some (t178, true)))) else (some (0, false))))) = some (r1, r2) := H
  have A2 := Aside0.mk A20
  clear A20
  replace H := Option.bind_eq_some_iff.mp H
  obtain ⟨t179, A30, H⟩ := H
  replace H : ((spec_FpOf.f a0).bind fun t180 => (if t179 = t180 then ((spec_FpSub.f 0 t178).bind fun t181 => (if t181 < t178 then ((spec_FpSub.f 0 t178).bind fun t182 => (some (t182, true))) else (some (t178, true)))) else (some (0, false)))) = some (r1, r2) := H
  have A3 := Aside0.mk A30
  clear A30
  replace H := Option.bind_eq_some_iff.mp H
  obtain ⟨t180, A40, H⟩ := H
  replace H : (if t179 = t180 then ((spec_FpSub.f 0 t178).bind fun t181 => (if t181 < t178 then ((spec_FpSub.f 0 t178).bind fun t182 => (some (t182, true))) else (some (t178, true)))) else (some (0, false))) = some (r1, r2) := H
  have A4 := Aside0.mk A40
  clear A40
  by_cases c5 : t179 = t180
  · rw [if_pos c5] at H
    have c5b0 : (t179 == t180) = true := beq_iff_eq.mpr c5
    have c5b1 : (t179 != t180) = false := bne_eq_false_iff_eq.mpr c5
    clear c5
    replace H := Option.bind_eq_some_iff.mp H
    obtain ⟨t181, A60, H⟩ := H
    replace H : (if t181 < t178 then ((spec_FpSub.f 0 t178).bind fun t182 => (some (t182, true))) else (some (t178, true))) = some (r1, r2) := H
    have A6 := Aside0.mk A60
    clear A60
    by_cases c7 : t181 < t178
    · rw [if_pos c7] at H
      have c7b0 : decide (t181 < t178) = true := decide_eq_true c7
      clear c7
      replace H := Option.bind_eq_some_iff.mp H
      obtain ⟨t182, A80, H⟩ := H
      replace H : (some (t182, true)) = some (r1, r2) := H
      have A8 := Aside0.mk A80
      clear A80
      simp only [Option.some.injEq, Prod.mk.injEq] at H
      obtain ⟨rfl, rfl⟩ := H
      go_enter Try.func24, Try.ntmps24
      go_wp2_with (first | ((with_reducible refine gate_callee (f := 31) rfl ?_); refine goesL_ (some 6) rfl rfl Try.func31 (by kernel_rfl) rfl #[.int .i64 a0, .int .i64 3027] rfl (by (try simp only [List.map_toArray, List.map_cons, List.map_nil]); first | done | rfl | (simp only [List.length_drop, List.length_take]; rfl)) ?_; (with_reducible refine (spec_FpPow.calls k a0 3027 t178 _ A2.out).mono ?_); rintro e w' ⟨rfl, ⟨nd, rfl⟩⟩; refine ⟨_, rfl, ?_⟩) | ((with_reducible refine gate_callee (f := 78) rfl ?_); refine goesL_ (some 9) rfl rfl Try.func78 (by kernel_rfl) rfl #[.int .i64 t178, .int .i64 t178] rfl (by (try simp only [List.map_toArray, List.map_cons, List.map_nil]); first | done | rfl | (simp only [List.length_drop, List.length_take]; rfl)) ?_; (with_reducible refine (spec_FpMul.calls t178 t178 t179 _ A3.out).mono ?_); rintro e w' ⟨rfl, ⟨nd, rfl⟩⟩; refine ⟨_, rfl, ?_⟩) | ((with_reducible refine gate_callee (f := 79) rfl ?_); refine goesL_ (some 11) rfl rfl Try.func79 (by kernel_rfl) rfl #[.int .i64 a0] rfl (by (try simp only [List.map_toArray, List.map_cons, List.map_nil]); first | done | rfl | (simp only [List.length_drop, List.length_take]; rfl)) ?_; (with_reducible refine (spec_FpOf.calls a0 t180 _ A4.out).mono ?_); rintro e w' ⟨rfl, ⟨nd, rfl⟩⟩; refine ⟨_, rfl, ?_⟩) | ((with_reducible refine gate_callee (f := 66) rfl ?_); refine goesL_ (some 14) rfl rfl Try.func66 (by kernel_rfl) rfl #[.int .i64 0, .int .i64 t178] rfl (by (try simp only [List.map_toArray, List.map_cons, List.map_nil]); first | done | rfl | (simp only [List.length_drop, List.length_take]; rfl)) ?_; (with_reducible refine (spec_FpSub.calls 0 t178 t181 _ A6.out).mono ?_); rintro e w' ⟨rfl, ⟨nd, rfl⟩⟩; refine ⟨_, rfl, ?_⟩) | ((with_reducible refine gate_callee (f := 66) rfl ?_); refine goesL_ (some 18) rfl rfl Try.func66 (by kernel_rfl) rfl #[.int .i64 0, .int .i64 t178] rfl (by (try simp only [List.map_toArray, List.map_cons, List.map_nil]); first | done | rfl | (simp only [List.length_drop, List.length_take]; rfl)) ?_; (with_reducible refine (spec_FpSub.calls 0 t178 t182 _ A8.out).mono ?_); rintro e w' ⟨rfl, ⟨nd, rfl⟩⟩; refine ⟨_, rfl, ?_⟩))
      go_ret2
      exact ⟨by first | rfl | (simp; done) | (simp [*]; done), by repeat (first | exact Drawn0.refl _ | apply Drawn0.step)⟩
    · rw [if_neg c7] at H
      have c7b0 : decide (t181 < t178) = false := decide_eq_false c7
      clear c7
      simp only [Option.some.injEq, Prod.mk.injEq] at H
      obtain ⟨rfl, rfl⟩ := H
      go_enter Try.func24, Try.ntmps24
      go_wp2_with (first | ((with_reducible refine gate_callee (f := 31) rfl ?_); refine goesL_ (some 6) rfl rfl Try.func31 (by kernel_rfl) rfl #[.int .i64 a0, .int .i64 3027] rfl (by (try simp only [List.map_toArray, List.map_cons, List.map_nil]); first | done | rfl | (simp only [List.length_drop, List.length_take]; rfl)) ?_; (with_reducible refine (spec_FpPow.calls k a0 3027 t178 _ A2.out).mono ?_); rintro e w' ⟨rfl, ⟨nd, rfl⟩⟩; refine ⟨_, rfl, ?_⟩) | ((with_reducible refine gate_callee (f := 78) rfl ?_); refine goesL_ (some 9) rfl rfl Try.func78 (by kernel_rfl) rfl #[.int .i64 t178, .int .i64 t178] rfl (by (try simp only [List.map_toArray, List.map_cons, List.map_nil]); first | done | rfl | (simp only [List.length_drop, List.length_take]; rfl)) ?_; (with_reducible refine (spec_FpMul.calls t178 t178 t179 _ A3.out).mono ?_); rintro e w' ⟨rfl, ⟨nd, rfl⟩⟩; refine ⟨_, rfl, ?_⟩) | ((with_reducible refine gate_callee (f := 79) rfl ?_); refine goesL_ (some 11) rfl rfl Try.func79 (by kernel_rfl) rfl #[.int .i64 a0] rfl (by (try simp only [List.map_toArray, List.map_cons, List.map_nil]); first | done | rfl | (simp only [List.length_drop, List.length_take]; rfl)) ?_; (with_reducible refine (spec_FpOf.calls a0 t180 _ A4.out).mono ?_); rintro e w' ⟨rfl, ⟨nd, rfl⟩⟩; refine ⟨_, rfl, ?_⟩) | ((with_reducible refine gate_callee (f := 66) rfl ?_); refine goesL_ (some 14) rfl rfl Try.func66 (by kernel_rfl) rfl #[.int .i64 0, .int .i64 t178] rfl (by (try simp only [List.map_toArray, List.map_cons, List.map_nil]); first | done | rfl | (simp only [List.length_drop, List.length_take]; rfl)) ?_; (with_reducible refine (spec_FpSub.calls 0 t178 t181 _ A6.out).mono ?_); rintro e w' ⟨rfl, ⟨nd, rfl⟩⟩; refine ⟨_, rfl, ?_⟩))
      go_ret2
      exact ⟨by first | rfl | (simp; done) | (simp [*]; done), by repeat (first | exact Drawn0.refl _ | apply Drawn0.step)⟩
  · rw [if_neg c5] at H
    have c5b0 : (t179 == t180) = false := beq_eq_false_iff_ne.mpr c5
    have c5b1 : (t179 != t180) = true := bne_iff_ne.mpr c5
    simp only [Option.some.injEq, Prod.mk.injEq] at H
    obtain ⟨rfl, rfl⟩ := H
    go_enter Try.func24, Try.ntmps24
    go_wp2_with (first | ((with_reducible refine gate_callee (f := 31) rfl ?_); refine goesL_ (some 6) rfl rfl Try.func31 (by kernel_rfl) rfl #[.int .i64 a0, .int .i64 3027] rfl (by (try simp only [List.map_toArray, List.map_cons, List.map_nil]); first | done | rfl | (simp only [List.length_drop, List.length_take]; rfl)) ?_; (with_reducible refine (spec_FpPow.calls k a0 3027 t178 _ A2.out).mono ?_); rintro e w' ⟨rfl, ⟨nd, rfl⟩⟩; refine ⟨_, rfl, ?_⟩) | ((with_reducible refine gate_callee (f := 78) rfl ?_); refine goesL_ (some 9) rfl rfl Try.func78 (by kernel_rfl) rfl #[.int .i64 t178, .int .i64 t178] rfl (by (try simp only [List.map_toArray, List.map_cons, List.map_nil]); first | done | rfl | (simp only [List.length_drop, List.length_take]; rfl)) ?_; (with_reducible refine (spec_FpMul.calls t178 t178 t179 _ A3.out).mono ?_); rintro e w' ⟨rfl, ⟨nd, rfl⟩⟩; refine ⟨_, rfl, ?_⟩) | ((with_reducible refine gate_callee (f := 79) rfl ?_); refine goesL_ (some 11) rfl rfl Try.func79 (by kernel_rfl) rfl #[.int .i64 a0] rfl (by (try simp only [List.map_toArray, List.map_cons, List.map_nil]); first | done | rfl | (simp only [List.length_drop, List.length_take]; rfl)) ?_; (with_reducible refine (spec_FpOf.calls a0 t180 _ A4.out).mono ?_); rintro e w' ⟨rfl, ⟨nd, rfl⟩⟩; refine ⟨_, rfl, ?_⟩))
    go_ret2
    exact ⟨by first | rfl | (simp; done) | (simp [*]; done), by repeat (first | exact Drawn0.refl _ | apply Drawn0.step)⟩

/-! ### impl_FpAdd: function 25 -/
def impl_FpAdd.f (a0 : Int) (a1 : Int) : Option (Int) := (impl_FpOf.f a0).bind fun t183 => ((impl_FpOf.f a1).bind fun t184 => ((impl_FpOf.f (wrap64 (t183 + t184))).bind fun t185 => (some t185)))
set_option maxHeartbeats 8000000 in
set_option maxRecDepth 100000 in
theorem impl_FpAdd.calls (a0 : Int) (a1 : Int) (r : Int) (w : World) (h : impl_FpAdd.f a0 a1 = some r) :
    Calls Try.prog 25 #[.int .i64 a0, .int .i64 a1] w fun e w' => e = .returned (.int .i64 r) ∧ Drawn0 w w' := by
  have H : ((impl_FpOf.f a0).bind fun t183 => ((impl_FpOf.f a1).bind fun t184 => ((impl_FpOf.f (wrap64 (t183 + t184))).bind fun t185 => (some t185)))) = some r := h
  clear h
  replace H := Option.bind_eq_some_iff.mp H
  obtain ⟨t183, A30, H⟩ := H
  replace H : ((impl_FpOf.f a1).bind fun t184 => ((impl_FpOf.f (wrap64 (t183 + t184))).bind fun t185 => (some t185))) = some r := H
  have A3 := Aside0.mk A30
  clear A30
  replace H := Option.bind_eq_some_iff.mp H
  obtain ⟨t184, A40, H⟩ := H
  replace H : ((impl_FpOf.f (wrap64 (t183 + t184))).bind fun t185 => (some t185)) = some r := H
  have A4 := Aside0.mk A40
  clear A40
  replace H := Option.bind_eq_some_iff.mp H
  obtain ⟨t185, A50, H⟩ := H
  replace H : (some t185) = some r := H
  have A5 := Aside0.mk A50
  clear A50
  obtain rfl := Option.some.inj H
  go_enter Try.func25, Try.ntmps25
  go_wp2_with (first | ((with_reducible refine gate_callee (f := 29) rfl ?_); refine goesL_ (some 6) rfl rfl Try.func29 (by kernel_rfl) rfl #[.int .i64 a0] rfl (by (try simp only [List.map_toArray, List.map_cons, List.map_nil]); first | done | rfl | (simp only [List.length_drop, List.length_take]; rfl)) ?_; (with_reducible refine (impl_FpOf.calls a0 t183 _ A3.out).mono ?_); rintro e w' ⟨rfl, ⟨nd, rfl⟩⟩; refine ⟨_, rfl, ?_⟩) | ((with_reducible refine gate_callee (f := 29) rfl ?_); refine goesL_ (some 8) rfl rfl Try.func29 (by kernel_rfl) rfl #[.int .i64 a1] rfl (by (try simp only [List.map_toArray, List.map_cons, List.map_nil]); first | done | rfl | (simp only [List.length_drop, List.length_take]; rfl)) ?_; (with_reducible refine (impl_FpOf.calls a1 t184 _ A4.out).mono ?_); rintro e w' ⟨rfl, ⟨nd, rfl⟩⟩; refine ⟨_, rfl, ?_⟩) | ((with_reducible refine gate_callee (f := 29) rfl ?_); refine goesL_ (some 10) rfl rfl Try.func29 (by kernel_rfl) rfl #[.int .i64 (wrap64 (t183 + t184))] rfl (by (try simp only [List.map_toArray, List.map_cons, List.map_nil]); first | done | rfl | (simp only [List.length_drop, List.length_take]; rfl)) ?_; (with_reducible refine (impl_FpOf.calls (wrap64 (t183 + t184)) t185 _ A5.out).mono ?_); rintro e w' ⟨rfl, ⟨nd, rfl⟩⟩; refine ⟨_, rfl, ?_⟩))
  go_ret
  exact ⟨by first | rfl | (simp; done) | (simp [*]; done), by repeat (first | exact Drawn0.refl _ | apply Drawn0.step)⟩

/-! ### laws_FnRoots: function 6 -/
def laws_FnRoots.f (k : Nat) (l0 : List Int) : Option (Bool) := (laws_big.f l0).bind fun t186 => (if t186 = true then (some true) else ((spec_DrawPlaces.f k l0).bind fun t187 => (if 0 < (t187.length : Int) then (if 1 < (t187.length : Int) then ((impl_FpMul.f (wrap64 (1 + (Int.tmod (rd t187 0) 12106))) (wrap64 (1 + (Int.tmod (rd t187 0) 12106)))).bind fun t192 => ((impl_FpRoot.f k t192).bind fun bt193 => ((impl_FpRoot.f k (wrap64 (1 + (Int.tmod (rd t187 0) 12106)))).bind fun bt195 => ((impl_FpRoot.f k (wrap64 (1 + (Int.tmod (rd t187 1) 12106)))).bind fun bt197 => ((impl_FpMul.f (wrap64 (1 + (Int.tmod (rd t187 0) 12106))) (wrap64 (1 + (Int.tmod (rd t187 1) 12106)))).bind fun t199 => ((impl_FpRoot.f k t199).bind fun bt200 => ((spec_DrawFpRoot.f k l0).bind fun t202 => ((impl_FpRoot.f k t202).bind fun bt203 => ((spec_FpRoot.f k t202).bind fun bt205 => (if bt193.2 = true then (if bt193.1 = (wrap64 (1 + (Int.tmod (rd t187 0) 12106))) then (if bt195.2 = true then ((impl_FpMul.f bt195.1 bt195.1).bind fun t207 => (if t207 = (wrap64 (1 + (Int.tmod (rd t187 0) 12106))) then (if (bt200.2 == (bt195.2 == bt197.2)) = true then (if (bt203.2 == bt205.2) = true then (some (bt203.1 == bt205.1)) else (some false)) else (some false)) else (some false))) else (if (bt200.2 == (bt195.2 == bt197.2)) = true then (if (bt203.2 == bt205.2) = true then (some (bt203.1 == bt205.1)) else (some false)) else (some false))) else ((impl_FpAdd.f bt193.1 (wrap64 (1 + (Int.tmod (rd t187 0) 12106)))).bind fun t208 => (if t208 = 0 then (if bt195.2 = true then ((impl_FpMul.f bt195.1 bt195.1).bind fun t209 => (if t209 = (wrap64 (1 + (Int.tmod (rd t187 0) 12106))) then (if (bt200.2 == (bt195.2 == bt197.2)) = true then (if (bt203.2 == bt205.2) = true then (some (bt203.1 == bt205.1)) else (some false)) else (some false)) else (some false))) else (if (bt200.2 == (bt195.2 == bt197.2)) = true then (if (bt203.2 == bt205.2) = true then (some (bt203.1 == bt205.1)) else (some false)) else (some false))) else (some false)))) else (some false))))))))))) else (none)) else (none))))
theorem laws_FnRoots.mono : ∀ a0 k, LeO (laws_FnRoots.f k a0) (laws_FnRoots.f (k + 1) a0) := by
  intro a0 k
  unfold laws_FnRoots.f
  repeat' first
      | (with_reducible exact impl_FpRoot.mono _ _)
      | (with_reducible exact spec_DrawFpRoot.mono _ _)
      | (with_reducible exact spec_DrawPlaces.mono _ _)
      | (with_reducible exact spec_FpRoot.mono _ _)
      | (with_reducible exact LeO.refl _)
      | (with_reducible exact LeO.none _)
      | (with_reducible refine LeO.ite ?_ ?_)
      | (with_reducible refine LeO.bind ?_ (fun _ => ?_))
      | exact impl_FpRoot.mono _ _
      | exact spec_DrawFpRoot.mono _ _
      | exact spec_DrawPlaces.mono _ _
      | exact spec_FpRoot.mono _ _
      | exact LeO.none _
      | refine LeO.ite ?_ ?_
      | refine LeO.bind ?_ (fun _ => ?_)
set_option maxHeartbeats 8000000 in
set_option maxRecDepth 100000 in
theorem laws_FnRoots.calls (k : Nat) (A0 : Option Addr) (c0 : Nat) (l0 : List Int) (r : Bool) (w : World) (hr0 : Kd.C (Kd.int .u8) w A0 l0.length l0) (hc0 : l0.length ≤ c0) (h : laws_FnRoots.f k l0 = some r) (hr : r = true) :
    Calls Try.prog 6 #[.slice A0 l0.length c0] w fun e w' => e = .returned (.bool r) ∧ Below w.heap.size w w' := by
  have HR := Aside0.mk hr
  clear hr
  have HR0 := Aside0.mk hr0
  have HC0 := Aside0.mk hc0
  clear hr0 hc0
  have HB := Aside0.mk (Below.refl w.heap.size w)
  have H : ((laws_big.f l0).bind fun t186 => (if t186 = true then (some true) else ((spec_DrawPlaces.f k l0).bind fun t187 => (if 0 < (t187.length : Int) then (if 1 < (t187.length : Int) then ((impl_FpMul.f (wrap64 (1 + (Int.tmod (rd t187 0) 12106))) (wrap64 (1 + (Int.tmod (rd t187 0) 12106)))).bind fun t192 => ((impl_FpRoot.f k t192).bind fun bt193 => ((impl_FpRoot.f k (wrap64 (1 + (Int.tmod (rd t187 0) 12106)))).bind fun bt195 => ((impl_FpRoot.f k (wrap64 (1 + (Int.tmod (rd t187 1) 12106)))).bind fun bt197 => ((impl_FpMul.f (wrap64 (1 + (Int.tmod (rd t187 0) 12106))) (wrap64 (1 + (Int.tmod (rd t187 1) 12106)))).bind fun t199 => ((impl_FpRoot.f k t199).bind fun bt200 => ((spec_DrawFpRoot.f k l0).bind fun t202 => ((impl_FpRoot.f k t202).bind fun bt203 => ((spec_FpRoot.f k t202).bind fun bt205 => (if bt193.2 = true then (if bt193.1 = (wrap64 (1 + (Int.tmod (rd t187 0) 12106))) then (if bt195.2 = true then ((impl_FpMul.f bt195.1 bt195.1).bind fun t207 => (if t207 = (wrap64 (1 + (Int.tmod (rd t187 0) 12106))) then (if (bt200.2 == (bt195.2 == bt197.2)) = true then (if (bt203.2 == bt205.2) = true then (some (bt203.1 == bt205.1)) else (some false)) else (some false)) else (some false))) else (if (bt200.2 == (bt195.2 == bt197.2)) = true then (if (bt203.2 == bt205.2) = true then (some (bt203.1 == bt205.1)) else (some false)) else (some false))) else ((impl_FpAdd.f bt193.1 (wrap64 (1 + (Int.tmod (rd t187 0) 12106)))).bind fun t208 => (if t208 = 0 then (if bt195.2 = true then ((impl_FpMul.f bt195.1 bt195.1).bind fun t209 => (if t209 = (wrap64 (1 + (Int.tmod (rd t187 0) 12106))) then (if (bt200.2 == (bt195.2 == bt197.2)) = true then (if (bt203.2 == bt205.2) = true then (some (bt203.1 == bt205.1)) else (some false)) else (some false)) else (some false))) else (if (bt200.2 == (bt195.2 == bt197.2)) = true then (if (bt203.2 == bt205.2) = true then (some (bt203.1 == bt205.1)) else (some false)) else (some false))) else (some false)))) else (some false))))))))))) else (none)) else (none))))) = some r := h
  clear h
  replace H := Option.bind_eq_some_iff.mp H
  obtain ⟨t186, A20, H⟩ := H
  replace H : (if t186 = true then (some true) else ((spec_DrawPlaces.f k l0).bind fun t187 => (if 0 < (t187.length : Int) then (if 1 < (t187.length : Int) then ((impl_FpMul.f (wrap64 (1 + (Int.tmod (rd t187 0) 12106))) (wrap64 (1 + (Int.tmod (rd t187 0) 12106)))).bind fun t192 => ((impl_FpRoot.f k t192).bind fun bt193 => ((impl_FpRoot.f k (wrap64 (1 + (Int.tmod (rd t187 0) 12106)))).bind fun bt195 => ((impl_FpRoot.f k (wrap64 (1 + (Int.tmod (rd t187 1) 12106)))).bind fun bt197 => ((impl_FpMul.f (wrap64 (1 + (Int.tmod (rd t187 0) 12106))) (wrap64 (1 + (Int.tmod (rd t187 1) 12106)))).bind fun t199 => ((impl_FpRoot.f k t199).bind fun bt200 => ((spec_DrawFpRoot.f k l0).bind fun t202 => ((impl_FpRoot.f k t202).bind fun bt203 => ((spec_FpRoot.f k t202).bind fun bt205 => (if bt193.2 = true then (if bt193.1 = (wrap64 (1 + (Int.tmod (rd t187 0) 12106))) then (if bt195.2 = true then ((impl_FpMul.f bt195.1 bt195.1).bind fun t207 => (if t207 = (wrap64 (1 + (Int.tmod (rd t187 0) 12106))) then (if (bt200.2 == (bt195.2 == bt197.2)) = true then (if (bt203.2 == bt205.2) = true then (some (bt203.1 == bt205.1)) else (some false)) else (some false)) else (some false))) else (if (bt200.2 == (bt195.2 == bt197.2)) = true then (if (bt203.2 == bt205.2) = true then (some (bt203.1 == bt205.1)) else (some false)) else (some false))) else ((impl_FpAdd.f bt193.1 (wrap64 (1 + (Int.tmod (rd t187 0) 12106)))).bind fun t208 => (if t208 = 0 then (if bt195.2 = true then ((impl_FpMul.f bt195.1 bt195.1).bind fun t209 => (if t209 = (wrap64 (1 + (Int.tmod (rd t187 0) 12106))) then (if (bt200.2 == (bt195.2 == bt197.2)) = true then (if (bt203.2 == bt205.2) = true then (some (bt203.1 == bt205.1)) else (some false)) else (some false)) else (some false))) else (if (bt200.2 == (bt195.2 == bt197.2)) = true then (if (bt203.2 == bt205.2) = true then (some (bt203.1 == bt205.1)) else (some false)) else (some false))) else (some false)))) else (some false))))))))))) else (none)) else (none)))) = some r := H
  have A2 := Aside0.mk A20
  clear A20
  by_cases c3 : t186 = true
  · subst c3
    have H1 : (some true) = some r := by rw [if_pos rfl] at H; exact H
    clear H
    have H := H1
    clear H1
    obtain rfl := Option.some.inj H
    go_enter Try.func6, Try.ntmps6
    go_wp2_with (first | ((with_reducible refine gate_callee (f := 19) rfl ?_); refine goesL_ (some 20) rfl rfl Try.func19 (by kernel_rfl) rfl #[.slice A0 l0.length c0] rfl (by (try simp only [List.map_toArray, List.map_cons, List.map_nil]); first | done | rfl | (simp only [List.length_drop, List.length_take]; rfl)) ?_; (with_reducible refine (laws_big.calls _ _ l0 true _ ?side1 ?side2 A2.out).mono ?_); (case side1 => repeat (first | exact HR0.out | (with_reducible refine Kd.C_alloc ?_ _) | (with_reducible refine Kd.C_drewN ?_ _) | (with_reducible refine Kd.C_drew ?_))); (case side2 => exact HC0.out); rintro e w' ⟨rfl, ⟨nd, rfl⟩⟩; refine ⟨_, rfl, ?_⟩))
    go_ret
    exact ⟨by first | rfl | (simp [errW_none, errW_some] <;> rfl) | (simp [*, errW_none, errW_some] <;> rfl), by repeat (first | (with_reducible first | exact HB.out | apply below_alloc | apply pw_below_drewN | apply below_drew1) | exact HB.out)⟩
  · replace c3 := Bool.eq_false_iff.mpr c3
    subst c3
    have H1 : ((spec_DrawPlaces.f k l0).bind fun t187 => (if 0 < (t187.length : Int) then (if 1 < (t187.length : Int) then ((impl_FpMul.f (wrap64 (1 + (Int.tmod (rd t187 0) 12106))) (wrap64 (1 + (Int.tmod (rd t187 0) 12106)))).bind fun t192 => ((impl_FpRoot.f k t192).bind fun bt193 => ((impl_FpRoot.f k (wrap64 (1 + (Int.tmod (rd t187 0) 12106)))).bind fun bt195 => ((impl_FpRoot.f k (wrap64 (1 + (Int.tmod (rd t187 1) 12106)))).bind fun bt197 => ((impl_FpMul.f (wrap64 (1 + (Int.tmod (rd t187 0) 12106))) (wrap64 (1 + (Int.tmod (rd t187 1) 12106)))).bind fun t199 => ((impl_FpRoot.f k t199).bind fun bt200 => ((spec_DrawFpRoot.f k l0).bind fun t202 => ((impl_FpRoot.f k t202).bind fun bt203 => ((spec_FpRoot.f k t202).bind fun bt205 => (if bt193.2 = true then (if bt193.1 = (wrap64 (1 + (Int.tmod (rd t187 0) 12106))) then (if bt195.2 = true then ((impl_FpMul.f bt195.1 bt195.1).bind fun t207 => (if t207 = (wrap64 (1 + (Int.tmod (rd t187 0) 12106))) then (if (bt200.2 == (bt195.2 == bt197.2)) = true then (if (bt203.2 == bt205.2) = true then (some (bt203.1 == bt205.1)) else (some false)) else (some false)) else (some false))) else (if (bt200.2 == (bt195.2 == bt197.2)) = true then (if (bt203.2 == bt205.2) = true then (some (bt203.1 == bt205.1)) else (some false)) else (some false))) else ((impl_FpAdd.f bt193.1 (wrap64 (1 + (Int.tmod (rd t187 0) 12106)))).bind fun t208 => (if t208 = 0 then (if bt195.2 = true then ((impl_FpMul.f bt195.1 bt195.1).bind fun t209 => (if t209 = (wrap64 (1 + (Int.tmod (rd t187 0) 12106))) then (if (bt200.2 == (bt195.2 == bt197.2)) = true then (if (bt203.2 == bt205.2) = true then (some (bt203.1 == bt205.1)) else (some false)) else (some false)) else (some false))) else (if (bt200.2 == (bt195.2 == bt197.2)) = true then (if (bt203.2 == bt205.2) = true then (some (bt203.1 == bt205.1)) else (some false)) else (some false))) else (some false)))) else (some false))))))))))) else (none)) else (none))) = some r := by rw [if_neg (show ¬ (false = true) by decide)] at H; exact H
    clear H
    have H := H1
    clear H1
    replace H := Option.bind_eq_some_iff.mp H
    obtain ⟨t187, A40, H⟩ := H
    replace H : (if 0 < (t187.length : Int) then (if 1 < (t187.length : Int) then ((impl_FpMul.f (wrap64 (1 + (Int.tmod (rd t187 0) 12106))) (wrap64 (1 + (Int.tmod (rd t187 0) 12106)))).bind fun t192 => ((impl_FpRoot.f k t192).bind fun bt193 => ((impl_FpRoot.f k (wrap64 (1 + (Int.tmod (rd t187 0) 12106)))).bind fun bt195 => ((impl_FpRoot.f k (wrap64 (1 + (Int.tmod (rd t187 1) 12106)))).bind fun bt197 => ((impl_FpMul.f (wrap64 (1 + (Int.tmod (rd t187 0) 12106))) (wrap64 (1 + (Int.tmod (rd t187 1) 12106)))).bind fun t199 => ((impl_FpRoot.f k t199).bind fun bt200 => ((spec_DrawFpRoot.f k l0).bind fun t202 => ((impl_FpRoot.f k t202).bind fun bt203 => ((spec_FpRoot.f k t202).bind fun bt205 => (if bt193.2 = true then (if bt193.1 = (wrap64 (1 + (Int.tmod (rd t187 0) 12106))) then (if bt195.2 = true then ((impl_FpMul.f bt195.1 bt195.1).bind fun t207 => (if t207 = (wrap64 (1 + (Int.tmod (rd t187 0) 12106))) then (if (bt200.2 == (bt195.2 == bt197.2)) = true then (if (bt203.2 == bt205.2) = true then (some (bt203.1 == bt205.1)) else (some false)) else (some false)) else (some false))) else (if (bt200.2 == (bt195.2 == bt197.2)) = true then (if (bt203.2 == bt205.2) = true then (some (bt203.1 == bt205.1)) else (some false)) else (some false))) else ((impl_FpAdd.f bt193.1 (wrap64 (1 + (Int.tmod (rd t187 0) 12106)))).bind fun t208 => (if t208 = 0 then (if bt195.2 = true then ((impl_FpMul.f bt195.1 bt195.1).bind fun t209 => (if t209 = (wrap64 (1 + (Int.tmod (rd t187 0) 12106))) then (if (bt200.2 == (bt195.2 == bt197.2)) = true then (if (bt203.2 == bt205.2) = true then (some (bt203.1 == bt205.1)) else (some false)) else (some false)) else (some false))) else (if (bt200.2 == (bt195.2 == bt197.2)) = true then (if (bt203.2 == bt205.2) = true then (some (bt203.1 == bt205.1)) else (some false)) else (some false))) else (some false)))) else (some false))))))))))) else (none)) else (none)) = some r := H
    have A4 := Aside0.mk A40
    clear A40
    by_cases c5 : 0 < (t187.length : Int)
    · rw [if_pos c5] at H
      have c5b0 : decide (0 < (t187.length : Int)) = true := decide_eq_true c5
      have c5b1 : decide (0 < t187.length) = true := decide_eq_true (by omega)
      clear c5
      by_cases c6 : 1 < (t187.length : Int)
      · rw [if_pos c6] at H
        have c6b0 : decide (1 < (t187.length : Int)) = true := decide_eq_true c6
        have c6b1 : decide (1 < t187.length) = true := decide_eq_true (by omega)
        clear c6
        replace H := Option.bind_eq_some_iff.mp H
        obtain ⟨t192, A70, H⟩ := H
        replace H : ((impl_FpRoot.f k t192).bind fun bt193 => ((impl_FpRoot.f k (wrap64 (1 + (Int.tmod (rd t187 0) 12106)))).bind fun bt195 => ((impl_FpRoot.f k (wrap64 (1 + (Int.tmod (rd t187 1) 12106)))).bind fun bt197 => ((impl_FpMul.f (wrap64 (1 + (Int.tmod (rd t187 0) 12106))) (wrap64 (1 + (Int.tmod (rd t187 1) 12106)))).bind fun t199 => ((impl_FpRoot.f k t199).bind fun bt200 => ((spec_DrawFpRoot.f k l0).bind fun t202 => ((impl_FpRoot.f k t202).bind fun bt203 => ((spec_FpRoot.f k t202).bind fun bt205 => (if bt193.2 = true then (if bt193.1 = (wrap64 (1 + (Int.tmod (rd t187 0) 12106))) then (if bt195.2 = true then ((impl_FpMul.f bt195.1 bt195.1).bind fun t207 => (if t207 = (wrap64 (1 + (Int.tmod (rd t187 0) 12106))) then (if (bt200.2 == (bt195.2 == bt197.2)) = true then (if (bt203.2 == bt205.2) = true then (some (bt203.1 == bt205.1)) else (some false)) else (some false)) else (some false))) else (if (bt200.2 == (bt195.2 == bt197.2)) = true then (if (bt203.2 == bt205.2) = true then (some (bt203.1 == bt205.1)) else (some false)) else (some false))) else ((impl_FpAdd.f bt193.1 (wrap64 (1 + (Int.tmod (rd t187 0) 12106)))).bind fun t208 => (if t208 = 0 then (if bt195.2 = true then ((impl_FpMul.f bt195.1 bt195.1).bind fun t209 => (if t209 = (wrap64 (1 + (Int.tmod (rd t187 0) 12106))) then (if (bt200.2 == (bt195.2 == bt197.2)) = true then (if (bt203.2 == bt205.2) = true then (some (bt203.1 == bt205.1)) else (some false)) else (some false)) else (some false))) else (if (bt200.2 == (bt195.2 == bt197.2)) = true then (if (bt203.2 == bt205.2) = true then (some (bt203.1 == bt205.1)) else (some false)) else (some false))) else (some false)))) else (some false)))))))))) = some r := H
        have A7 := Aside0.mk A70
        clear A70
        replace H := Option.bind_eq_some_iff.mp H
        obtain ⟨⟨t193, t194⟩, A80, H⟩ := H
        replace H : ((impl_FpRoot.f k (wrap64 (1 + (Int.tmod (rd t187 0) 12106)))).bind fun bt195 => ((impl_FpRoot.f k (wrap64 (1 + (Int.tmod (rd t187 1) 12106)))).bind fun bt197 => ((impl_FpMul.f (wrap64 (1 + (Int.tmod (rd t187 0) 12106))) (wrap64 (1 + (Int.tmod (rd t187 1) 12106)))).bind fun t199 => ((impl_FpRoot.f k t199).bind fun bt200 => ((spec_DrawFpRoot.f k l0).bind fun t202 => ((impl_FpRoot.f k t202).bind fun bt203 => ((spec_FpRoot.f k t202).bind fun bt205 => (if t194 = true then (if t193 = (wrap64 (1 + (Int.tmod (rd t187 0) 12106))) then (if bt195.2 = true then ((impl_FpMul.f bt195.1 bt195.1).bind fun t207 => (if t207 = (wrap64 (1 + (Int.tmod (rd t187 0) 12106))) then (if (bt200.2 == (bt195.2 == bt197.2)) = true then (if (bt203.2 == bt205.2) = true then (some (bt203.1 == bt205.1)) else (some false)) else (some false)) else (some false))) else (if (bt200.2 == (bt195.2 == bt197.2)) = true then (if (bt203.2 == bt205.2) = true then (some (bt203.1 == bt205.1)) else (some false)) else (some false))) else ((impl_FpAdd.f t193 (wrap64 (1 + (Int.tmod (rd t187 0) 12106)))).bind fun t208 => (if t208 = 0 then (if bt195.2 = true then ((impl_FpMul.f bt195.1 bt195.1).bind fun t209 => (if t209 = (wrap64 (1 + (Int.tmod (rd t187 0) 12106))) then (if (bt200.2 == (bt195.2 == bt197.2)) = true then (if (bt203.2 == bt205.2) = true then (some (bt203.1 == bt205.1)) else (some false)) else (some false)) else (some false))) else (if (bt200.2 == (bt195.2 == bt197.2)) = true then (if (bt203.2 == bt205.2) = true then (some (bt203.1 == bt205.1)) else (some false)) else (some false))) else (some false)))) else (some false))))))))) = some r := H
        have A8 := Aside0.mk A80
        clear A80
        replace H := Option.bind_eq_some_iff.mp H
        obtain ⟨⟨t195, t196⟩, A90, H⟩ := H
        replace H : ((impl_FpRoot.f k (wrap64 (1 + (Int.tmod (rd t187 1) 12106)))).bind fun bt197 => ((impl_FpMul.f (wrap64 (1 + (Int.tmod (rd t187 0) 12106))) (wrap64 (1 + (Int.tmod (rd t187 1) 12106)))).bind fun t199 => ((impl_FpRoot.f k t199).bind fun bt200 => ((spec_DrawFpRoot.f k l0).bind fun t202 => ((impl_FpRoot.f k t202).bind fun bt203 => ((spec_FpRoot.f k t202).bind fun bt205 => (if t194 = true then (if t193 = (wrap64 (1 + (Int.tmod (rd t187 0) 12106))) then (if t196 = true then ((impl_FpMul.f t195 t195).bind fun t207 => (if t207 = (wrap64 (1 + (Int.tmod (rd t187 0) 12106))) then (if (bt200.2 == (t196 == bt197.2)) = true then (if (bt203.2 == bt205.2) = true then (some (bt203.1 == bt205.1)) else (some false)) else (some false)) else (some false))) else (if (bt200.2 == (t196 == bt197.2)) = true then (if (bt203.2 == bt205.2) = true then (some (bt203.1 == bt205.1)) else (some false)) else (some false))) else ((impl_FpAdd.f t193 (wrap64 (1 + (Int.tmod (rd t187 0) 12106)))).bind fun t208 => (if t208 = 0 then (if t196 = true then ((impl_FpMul.f t195 t195).bind fun t209 => (if t209 = (wrap64 (1 + (Int.tmod (rd t187 0) 12106))) then (if (bt200.2 == (t196 == bt197.2)) = true then (if (bt203.2 == bt205.2) = true then (some (bt203.1 == bt205.1)) else (some false)) else (some false)) else (some false))) else (if (bt200.2 == (t196 == bt197.2)) = true then (if (bt203.2 == bt205.2) = true then (some (bt203.1 == bt205.1)) else (some false)) else (some false))) else (some false)))) else (some false)))))))) = some r := H
        have A9 := Aside0.mk A90
        clear A90
        replace H := Option.bind_eq_some_iff.mp H
        obtain ⟨⟨t197, t198⟩, A100, H⟩ := H
        replace H : ((impl_FpMul.f (wrap64 (1 + (Int.tmod (rd t187 0) 12106))) (wrap64 (1 + (Int.tmod (rd t187 1) 12106)))).bind fun t199 => ((impl_FpRoot.f k t199).bind fun bt200 => ((spec_DrawFpRoot.f k l0).bind fun t202 => ((impl_FpRoot.f k t202).bind fun bt203 => ((spec_FpRoot.f k t202).bind fun bt205 => (if t194 = true then (if t193 = (wrap64 (1 + (Int.tmod (rd t187 0) 12106))) then (if t196 = true then ((impl_FpMul.f t195 t195).bind fun t207 => (if t207 = (wrap64 (1 + (Int.tmod (rd t187 0) 12106))) then (if (bt200.2 == (t196 == t198)) = true then (if (bt203.2 == bt205.2) = true then (some (bt203.1 == bt205.1)) else (some false)) else (some false)) else (some false))) else (if (bt200.2 == (t196 == t198)) = true then (if (bt203.2 == bt205.2) = true then (some (bt203.1 == bt205.1)) else (some false)) else (some false))) else ((impl_FpAdd.f t193 (wrap64 (1 + (Int.tmod (rd t187 0) 12106)))).bind fun t208 => (if t208 = 0 then (if t196 = true then ((impl_FpMul.f t195 t195).bind fun t209 => (if t209 = (wrap64 (1 + (Int.tmod (rd t187 0) 12106))) then (if (bt200.2 == (t196 == t198)) = true then (if (bt203.2 == bt205.2) = true then (some (bt203.1 == bt205.1)) else (some false)) else (some false)) else (some false))) else (if (bt200.2 == (t196 == t198)) = true then (if (bt203.2 == bt205.2) = true then (some (bt203.1 == bt205.1)) else (some false)) else (some false))) else (some false)))) else (some false))))))) = some r := H
        have A10 := Aside0.mk A100
        clear A100
        replace H := Option.bind_eq_some_iff.mp H
        obtain ⟨t199, A110, H⟩ := H
        replace H : ((impl_FpRoot.f k t199).bind fun bt200 => ((spec_DrawFpRoot.f k l0).bind fun t202 => ((impl_FpRoot.f k t202).bind fun bt203 => ((spec_FpRoot.f k t202).bind fun bt205 => (if t194 = true then (if t193 = (wrap64 (1 + (Int.tmod (rd t187 0) 12106))) then (if t196 = true then ((impl_FpMul.f t195 t195).bind fun t207 => (if t207 = (wrap64 (1 + (Int.tmod (rd t187 0) 12106))) then (if (bt200.2 == (t196 == t198)) = true then (if (bt203.2 == bt205.2) = true then (some (bt203.1 == bt205.1)) else (some false)) else (some false)) else (some false))) else (if (bt200.2 == (t196 == t198)) = true then (if (bt203.2 == bt205.2) = true then (some (bt203.1 == bt205.1)) else (some false)) else (some false))) else ((impl_FpAdd.f t193 (wrap64 (1 + (Int.tmod (rd t187 0) 12106)))).bind fun t208 => (if t208 = 0 then (if t196 = true then ((impl_FpMul.f t195 t195).bind fun t209 => (if t209 = (wrap64 (1 + (Int.tmod (rd t187 0) 12106))) then (if (bt200.2 == (t196 == t198)) = true then (if (bt203.2 == bt205.2) = true then (some (bt203.1 == bt205.1)) else (some false)) else (some false)) else (some false))) else (if (bt200.2 == (t196 == t198)) = true then (if (bt203.2 == bt205.2) = true then (some (bt203.1 == bt205.1)) else (some false)) else (some false))) else (some false)))) else (some false)))))) = some r := H
        have A11 := Aside0.mk A110
        clear A110
        replace H := Option.bind_eq_some_iff.mp H
        obtain ⟨⟨t200, t201⟩, A120, H⟩ := H
        replace H : ((spec_DrawFpRoot.f k l0).bind fun t202 => ((impl_FpRoot.f k t202).bind fun bt203 => ((spec_FpRoot.f k t202).bind fun bt205 => (if t194 = true then (if t193 = (wrap64 (1 + (Int.tmod (rd t187 0) 12106))) then (if t196 = true then ((impl_FpMul.f t195 t195).bind fun t207 => (if t207 = (wrap64 (1 + (Int.tmod (rd t187 0) 12106))) then (if (t201 == (t196 == t198)) = true then (if (bt203.2 == bt205.2) = true then (some (bt203.1 == bt205.1)) else (some false)) else (some false)) else (some false))) else (if (t201 == (t196 == t198)) = true then (if (bt203.2 == bt205.2) = true then (some (bt203.1 == bt205.1)) else (some false)) else (some false))) else ((impl_FpAdd.f t193 (wrap64 (1 + (Int.tmod (rd t187 0) 12106)))).bind fun t208 => (if t208 = 0 then (if t196 = true then ((impl_FpMul.f t195 t195).bind fun t209 => (if t209 = (wrap64 (1 + (Int.tmod (rd t187 0) 12106))) then (if (t201 == (t196 == t198)) = true then (if (bt203.2 == bt205.2) = true then (some (bt203.1 == bt205.1)) else (some false)) else (some false)) else (some false))) else (if (t201 == (t196 == t198)) = true then (if (bt203.2 == bt205.2) = true then (some (bt203.1 == bt205.1)) else (some false)) else (some false))) else (some false)))) else (some false))))) = some r := H
        have A12 := Aside0.mk A120
        clear A120
        replace H := Option.bind_eq_some_iff.mp H
        obtain ⟨t202, A130, H⟩ := H
        replace H : ((impl_FpRoot.f k t202).bind fun bt203 => ((spec_FpRoot.f k t202).bind fun bt205 => (if t194 = true then (if t193 = (wrap64 (1 + (Int.tmod (rd t187 0) 12106))) then (if t196 = true then ((impl_FpMul.f t195 t195).bind fun t207 => (if t207 = (wrap64 (1 + (Int.tmod (rd t187 0) 12106))) then (if (t201 == (t196 == t198)) = true then (if (bt203.2 == bt205.2) = true then (some (bt203.1 == bt205.1)) else (some false)) else (some false)) else (some false))) else (if (t201 == (t196 == t198)) = true then (if (bt203.2 == bt205.2) = true then (some (bt203.1 == bt205.1)) else (some false)) else (some false))) else ((impl_FpAdd.f t193 (wrap64 (1 + (Int.tmod (rd t187 0) 12106)))).bind fun t208 => (if t208 = 0 then (if t196 = true then ((impl_FpMul.f t195 t195).bind fun t209 => (if t209 = (wrap64 (1 + (Int.tmod (rd t187 0) 12106))) then (if (t201 == (t196 == t198)) = true then (if (bt203.2 == bt205.2) = true then (some (bt203.1 == bt205.1)) else (some false)) else (some false)) else (some false))) else (if (t201 == (t196 == t198)) = true then (if (bt203.2 == bt205.2) = true then (some (bt203.1 == bt205.1)) else (some false)) else (some false))) else (some false)))) else (some false)))) = some r := H
        have A13 := Aside0.mk A130
        clear A130
        replace H := Option.bind_eq_some_iff.mp H
        obtain ⟨⟨t203, t204⟩, A140, H⟩ := H
        replace H : ((spec_FpRoot.f k t202).bind fun bt205 => (if t194 = true then (if t193 = (wrap64 (1 + (Int.tmod (rd t187 0) 12106))) then (if t196 = true then ((impl_FpMul.f t195 t195).bind fun t207 => (if t207 = (wrap64 (1 + (Int.tmod (rd t187 0) 12106))) then (if (t201 == (t196 == t198)) = true then (if (t204 == bt205.2) = true then (some (t203 == bt205.1)) else (some false)) else (some false)) else (some false))) else (if (t201 == (t196 == t198)) = true then (if (t204 == bt205.2) = true then (some (t203 == bt205.1)) else (some false)) else (some false))) else ((impl_FpAdd.f t193 (wrap64 (1 + (Int.tmod (rd t187 0) 12106)))).bind fun t208 => (if t208 = 0 then (if t196 = true then ((impl_FpMul.f t195 t195).bind fun t209 => (if t209 = (wrap64 (1 + (Int.tmod (rd t187 0) 12106))) then (if (t201 == (t196 == t198)) = true then (if (t204 == bt205.2) = true then (some (t203 == bt205.1)) else (some false)) else (some false)) else (some false))) else (if (t201 == (t196 == t198)) = true then (if (t204 == bt205.2) = true then (some (t203 == bt205.1)) else (some false)) else (some false))) else (some false)))) else (some false))) = some r := H
        have A14 := Aside0.mk A140
        clear A140
        replace H := Option.bind_eq_some_iff.mp H
        obtain ⟨⟨t205, t206⟩, A150, H⟩ := H
        replace H : (if t194 = true then (if t193 = (wrap64 (1 + (Int.tmod (rd t187 0) 12106))) then (if t196 = true then ((impl_FpMul.f t195 t195).bind fun t207 => (if t207 = (wrap64 (1 + (Int.tmod (rd t187 0) 12106))) then (if (t201 == (t196 == t198)) = true then (if (t204 == t206) = true then (some (t203 == t205)) else (some false)) else (some false)) else (some false))) else (if (t201 == (t196 == t198)) = true then (if (t204 == t206) = true then (some (t203 == t205)) else (some false)) else (some false))) else ((impl_FpAdd.f t193 (wrap64 (1 + (Int.tmod (rd t187 0) 12106)))).bind fun t208 => (if t208 = 0 then (if t196 = true then ((impl_FpMul.f t195 t195).bind fun t209 => (if t209 = (wrap64 (1 + (Int.tmod (rd t187 0) 12106))) then (if (t201 == (t196 == t198)) = true then (if (t204 == t206) = true then (some (t203 == t205)) else (some false)) else (some false)) else (some false))) else (if (t201 == (t196 == t198)) = true then (if (t204 == t206) = true then (some (t203 == t205)) else (some false)) else (some false))) else (some false)))) else (some false)) = some r := H
        have A15 := Aside0.mk A150
        clear A150
        by_cases c16 : t194 = true
        · subst c16
          have H1 : (if t193 = (wrap64 (1 + (Int.tmod (rd t187 0) 12106))) then (if t196 = true then ((impl_FpMul.f t195 t195).bind fun t207 => (if t207 = (wrap64 (1 + (Int.tmod (rd t187 0) 12106))) then (if (t201 == (t196 == t198)) = true then (if (t204 == t206) = true then (some (t203 == t205)) else (some false)) else (some false)) else (some false))) else (if (t201 == (t196 == t198)) = true then (if (t204 == t206) = true then (some (t203 == t205)) else (some false)) else (some false))) else ((impl_FpAdd.f t193 (wrap64 (1 + (Int.tmod (rd t187 0) 12106)))).bind fun t208 => (if t208 = 0 then (if t196 = true then ((impl_FpMul.f t195 t195).bind fun t209 => (if t209 = (wrap64 (1 + (Int.tmod (rd t187 0) 12106))) then (if (t201 == (t196 == t198)) = true then (if (t204 == t206) = true then (some (t203 == t205)) else (some false)) else (some false)) else (some false))) else (if (t201 == (t196 == t198)) = true then (if (t204 == t206) = true then (some (t203 == t205)) else (some false)) else (some false))) else (some false)))) = some r := by rw [if_pos rfl] at H; exact H
          clear H
          have H := H1
          clear H1
          by_cases c17 : t193 = (wrap64 (1 + (Int.tmod (rd t187 0) 12106)))
          · rw [if_pos c17] at H
            have c17b0 : (t193 == (wrap64 (1 + (Int.tmod (rd t187 0) 12106)))) = true := beq_iff_eq.mpr c17
            have c17b1 : (t193 != (wrap64 (1 + (Int.tmod (rd t187 0) 12106)))) = false := bne_eq_false_iff_eq.mpr c17
            clear c17
            by_cases c18 : t196 = true
            · subst c18
              have H1 : ((impl_FpMul.f t195 t195).bind fun t207 => (if t207 = (wrap64 (1 + (Int.tmod (rd t187 0) 12106))) then (if (t201 == (true == t198)) = true then (if (t204 == t206) = true then (some (t203 == t205)) else (some false)) else (some false)) else (some false))) = some r := by rw [if_pos rfl] at H; exact H
              clear H
              have H := H1
              clear H1
              replace H := Option.bind_eq_some_iff.mp H
              obtain ⟨t207, A190, H⟩ := H
              replace H : (if t207 = (wrap64 (1 + (Int.tmod (rd t187 0) 12106))) then (if (t201 == (true == t198)) = true then (if (t204 == t206) = true then (some (t203 == t205)) else (some false)) else (some false)) else (some false)) = some r := H
              have A19 := Aside0.mk A190
              clear A190
              by_cases c20 : t207 = (wrap64 (1 + (Int.tmod (rd t187 0) 12106)))
              · rw [if_pos c20] at H
                have c20b0 : (t207 == (wrap64 (1 + (Int.tmod (rd t187 0) 12106)))) = true := beq_iff_eq.mpr c20
                have c20b1 : (t207 != (wrap64 (1 + (Int.tmod (rd t187 0) 12106)))) = false := bne_eq_false_iff_eq.mpr c20
                clear c20
                by_cases c21 : (t201 == (true == t198)) = true
                · rw [if_pos c21] at H
                  have c21b0 : (t201 == (true == t198)) = true := c21
                  (try (have c21b1 : decide (t201 = (true == t198)) = true := by simpa using c21))
                  (try (have c21b2 : (t201 == (true == t198)) = true := by simpa using c21))
                  clear c21
                  by_cases c22 : (t204 == t206) = true
                  · rw [if_pos c22] at H
                    have c22b0 : (t204 == t206) = true := c22
                    (try (have c22b1 : decide (t204 = t206) = true := by simpa using c22))
                    (try (have c22b2 : (t204 == t206) = true := by simpa using c22))
                    clear c22
                    obtain rfl := Option.some.inj H
                    have hfin := HR.out
                    rcases Bool.eq_false_or_eq_true t198 with e198 | e198 <;> rcases Bool.eq_false_or_eq_true t201 with e201 | e201 <;> (first | (have q := c21b0; rw [e198, e201] at q; exact absurd q (by decide)) | (have q := c55b0; rw [e198, e201] at q; exact absurd q (by decide)) | (have q := c86b0; rw [e198, e201] at q; exact absurd q (by decide)) | (have q := c120b0; rw [e198, e201] at q; exact absurd q (by decide)) | skip)
                    all_goals (rcases Bool.eq_false_or_eq_true t204 with e204 | e204 <;> rcases Bool.eq_false_or_eq_true t206 with e206 | e206 <;> (first | (have q := c22b0; rw [e204, e206] at q; exact absurd q (by decide)) | (have q := c56b0; rw [e204, e206] at q; exact absurd q (by decide)) | (have q := c87b0; rw [e204, e206] at q; exact absurd q (by decide)) | (have q := c121b0; rw [e204, e206] at q; exact absurd q (by decide)) | skip))
                    all_goals
                      go_enter Try.func6, Try.ntmps6
                      go_wp2_with (first | ((with_reducible refine gate_callee (f := 19) rfl ?_); refine goesL_ (some 20) rfl rfl Try.func19 (by kernel_rfl) rfl #[.slice A0 l0.length c0] rfl (by (try simp only [List.map_toArray, List.map_cons, List.map_nil]); first | done | rfl | (simp only [List.length_drop, List.length_take]; rfl)) ?_; (with_reducible refine (laws_big.calls _ _ l0 false _ ?side1 ?side2 A2.out).mono ?_); (case side1 => repeat (first | exact HR0.out | (with_reducible refine Kd.C_alloc ?_ _) | (with_reducible refine Kd.C_drewN ?_ _) | (with_reducible refine Kd.C_drew ?_))); (case side2 => exact HC0.out); rintro e w' ⟨rfl, ⟨nd, rfl⟩⟩; refine ⟨_, rfl, ?_⟩) | ((with_reducible refine gate_callee (f := 20) rfl ?_); refine goesL_ (some 22) rfl rfl Try.func20 (by kernel_rfl) rfl #[.slice A0 l0.length c0] rfl (by (try simp only [List.map_toArray, List.map_cons, List.map_nil]); first | done | rfl | (simp only [List.length_drop, List.length_take]; rfl)) ?_; (with_reducible refine (spec_DrawPlaces.calls k _ _ l0 t187 _ ?side1 ?side2 A4.out).mono ?_); (case side1 => repeat (first | exact HR0.out | (with_reducible refine Kd.C_alloc ?_ _) | (with_reducible refine Kd.C_drewN ?_ _) | (with_reducible refine Kd.C_drew ?_))); (case side2 => exact HC0.out); rintro e w23 ⟨v188, rfl, ho0, hb⟩; refine ⟨_, rfl, ?_⟩; have n0_ := Aside0.mk (Kd.R_lower ho0 (below_size (by repeat (first | (with_reducible first | exact HB.out | apply below_alloc | apply pw_below_drewN | apply below_drew1) | exact HB.out)))); have n1_ := Aside0.mk (below_step (by repeat (first | (with_reducible first | exact HB.out | apply below_alloc | apply pw_below_drewN | apply below_drew1) | exact HB.out)) hb); clear HB; have HO189 := n0_; have HB := n1_; clear n0_ n1_; (try clear hb); (try clear hb2); (try clear hk); (try clear hi); (try clear ho0); obtain ⟨Ao24, co24, eo24⟩ := Kd.R_slice HO189.out; subst eo24; have p190 : 0 ≤ (0 : Int) := (by omega); have q190 : 0 < (t187.length : Int) := of_decide_eq_true (by first | (with_reducible assumption) | assumption); obtain ⟨ad190, e190, hx190_0⟩ := Kd.at_int (Kd.R_reads' HO189.out).2.2 0 p190 q190; cases e190; have qi190 : (0 < t187.length) = True := eq_true (by omega); (try rw [show ((0 : Int)).toNat = 0 from rfl] at hx190_0); (try rw [Addr.add_zero'] at hx190_0); replace p190 := eq_true p190; replace q190 := eq_true q190; have p191 : 0 ≤ (1 : Int) := (by omega); have q191 : 1 < (t187.length : Int) := of_decide_eq_true (by first | (with_reducible assumption) | assumption); obtain ⟨ad191, e191, hx191_0⟩ := Kd.at_int (Kd.R_reads' HO189.out).2.2 1 p191 q191; obtain rfl : ad190 = ad191 := (by injection e191); (try simp only [show (1 : Int).toNat = 1 from rfl, Nat.reduceMul, Nat.reduceEqDiff, Go.Addr.add, ↓reduceIte] at hx191_0); have qi191 : (1 < t187.length) = True := eq_true (by omega); (try rw [show ((1 : Int)).toNat = 1 from rfl] at hx191_0); replace p191 := eq_true p191; replace q191 := eq_true q191) | ((with_reducible refine gate_callee (f := 22) rfl ?_); refine goesL_ (some 36) rfl rfl Try.func22 (by kernel_rfl) rfl #[.int .i64 (wrap64 (1 + (Int.tmod (rd t187 0) 12106))), .int .i64 (wrap64 (1 + (Int.tmod (rd t187 0) 12106)))] rfl (by (try simp only [List.map_toArray, List.map_cons, List.map_nil]); first | done | rfl | (simp only [List.length_drop, List.length_take]; rfl)) ?_; (with_reducible refine (impl_FpMul.calls (wrap64 (1 + (Int.tmod (rd t187 0) 12106))) (wrap64 (1 + (Int.tmod (rd t187 0) 12106))) t192 _ A7.out).mono ?_); rintro e w' ⟨rfl, ⟨nd, rfl⟩⟩; refine ⟨_, rfl, ?_⟩) | ((with_reducible refine gate_callee (f := 21) rfl ?_); refine goesL_ (some 37) rfl rfl Try.func21 (by kernel_rfl) rfl #[.int .i64 t192] rfl (by (try simp only [List.map_toArray, List.map_cons, List.map_nil]); first | done | rfl | (simp only [List.length_drop, List.length_take]; rfl)) ?_; (with_reducible refine (impl_FpRoot.calls k t192 t193 true _ A8.out).mono ?_); rintro e w25 ⟨rfl, hb⟩; refine ⟨_, rfl, ?_⟩; have n0_ := Aside0.mk (Kd.R_below (by (with_reducible repeat (first | apply Kd.R_alloc | apply Kd.R_drewN | apply Kd.R_drew)); exact HO189.out) hb); have n1_ := Aside0.mk (below_step (by repeat (first | (with_reducible first | exact HB.out | apply below_alloc | apply pw_below_drewN | apply below_drew1) | exact HB.out)) hb); clear HO189; clear HB; have HO189 := n0_; have HB := n1_; clear n0_ n1_; (try clear hb); (try clear hb2); (try clear hk); (try clear hi)) | ((with_reducible refine gate_callee (f := 21) rfl ?_); refine goesL_ (some 42) rfl rfl Try.func21 (by kernel_rfl) rfl #[.int .i64 (wrap64 (1 + (Int.tmod (rd t187 0) 12106)))] rfl (by (try simp only [List.map_toArray, List.map_cons, List.map_nil]); first | done | rfl | (simp only [List.length_drop, List.length_take]; rfl)) ?_; (with_reducible refine (impl_FpRoot.calls k (wrap64 (1 + (Int.tmod (rd t187 0) 12106))) t195 true _ A9.out).mono ?_); rintro e w26 ⟨rfl, hb⟩; refine ⟨_, rfl, ?_⟩; have n0_ := Aside0.mk (Kd.R_below (by (with_reducible repeat (first | apply Kd.R_alloc | apply Kd.R_drewN | apply Kd.R_drew)); exact HO189.out) hb); have n1_ := Aside0.mk (below_step (by repeat (first | (with_reducible first | exact HB.out | apply below_alloc | apply pw_below_drewN | apply below_drew1) | exact HB.out)) hb); clear HO189; clear HB; have HO189 := n0_; have HB := n1_; clear n0_ n1_; (try clear hb); (try clear hb2); (try clear hk); (try clear hi)) | ((with_reducible refine gate_callee (f := 21) rfl ?_); refine goesL_ (some 47) rfl rfl Try.func21 (by kernel_rfl) rfl #[.int .i64 (wrap64 (1 + (Int.tmod (rd t187 1) 12106)))] rfl (by (try simp only [List.map_toArray, List.map_cons, List.map_nil]); first | done | rfl | (simp only [List.length_drop, List.length_take]; rfl)) ?_; (with_reducible refine (impl_FpRoot.calls k (wrap64 (1 + (Int.tmod (rd t187 1) 12106))) t197 t198 _ A10.out).mono ?_); rintro e w27 ⟨rfl, hb⟩; refine ⟨_, rfl, ?_⟩; have n0_ := Aside0.mk (Kd.R_below (by (with_reducible repeat (first | apply Kd.R_alloc | apply Kd.R_drewN | apply Kd.R_drew)); exact HO189.out) hb); have n1_ := Aside0.mk (below_step (by repeat (first | (with_reducible first | exact HB.out | apply below_alloc | apply pw_below_drewN | apply below_drew1) | exact HB.out)) hb); clear HO189; clear HB; have HO189 := n0_; have HB := n1_; clear n0_ n1_; (try clear hb); (try clear hb2); (try clear hk); (try clear hi)) | ((with_reducible refine gate_callee (f := 22) rfl ?_); refine goesL_ (some 53) rfl rfl Try.func22 (by kernel_rfl) rfl #[.int .i64 (wrap64 (1 + (Int.tmod (rd t187 0) 12106))), .int .i64 (wrap64 (1 + (Int.tmod (rd t187 1) 12106)))] rfl (by (try simp only [List.map_toArray, List.map_cons, List.map_nil]); first | done | rfl | (simp only [List.length_drop, List.length_take]; rfl)) ?_; (with_reducible refine (impl_FpMul.calls (wrap64 (1 + (Int.tmod (rd t187 0) 12106))) (wrap64 (1 + (Int.tmod (rd t187 1) 12106))) t199 _ A11.out).mono ?_); rintro e w' ⟨rfl, ⟨nd, rfl⟩⟩; refine ⟨_, rfl, ?_⟩) | ((with_reducible refine gate_callee (f := 21) rfl ?_); refine goesL_ (some 54) rfl rfl Try.func21 (by kernel_rfl) rfl #[.int .i64 t199] rfl (by (try simp only [List.map_toArray, List.map_cons, List.map_nil]); first | done | rfl | (simp only [List.length_drop, List.length_take]; rfl)) ?_; (with_reducible refine (impl_FpRoot.calls k t199 t200 t201 _ A12.out).mono ?_); rintro e w28 ⟨rfl, hb⟩; refine ⟨_, rfl, ?_⟩; have n0_ := Aside0.mk (Kd.R_below (by (with_reducible repeat (first | apply Kd.R_alloc | apply Kd.R_drewN | apply Kd.R_drew)); exact HO189.out) hb); have n1_ := Aside0.mk (below_step (by repeat (first | (with_reducible first | exact HB.out | apply below_alloc | apply pw_below_drewN | apply below_drew1) | exact HB.out)) hb); clear HO189; clear HB; have HO189 := n0_; have HB := n1_; clear n0_ n1_; (try clear hb); (try clear hb2); (try clear hk); (try clear hi)) | ((with_reducible refine gate_callee (f := 23) rfl ?_); refine goesL_ (some 58) rfl rfl Try.func23 (by kernel_rfl) rfl #[.slice A0 l0.length c0] rfl (by (try simp only [List.map_toArray, List.map_cons, List.map_nil]); first | done | rfl | (simp only [List.length_drop, List.length_take]; rfl)) ?_; (with_reducible refine (spec_DrawFpRoot.calls k _ _ l0 t202 _ ?side1 ?side2 A13.out).mono ?_); (case side1 => repeat (first | exact (Kd.C_below HR0.out HB.out) | (with_reducible refine Kd.C_alloc ?_ _) | (with_reducible refine Kd.C_drewN ?_ _) | (with_reducible refine Kd.C_drew ?_))); (case side2 => exact HC0.out); rintro e w29 ⟨rfl, hb⟩; refine ⟨_, rfl, ?_⟩; have n0_ := Aside0.mk (Kd.R_below (by (with_reducible repeat (first | apply Kd.R_alloc | apply Kd.R_drewN | apply Kd.R_drew)); exact HO189.out) hb); have n1_ := Aside0.mk (below_step (by repeat (first | (with_reducible first | exact HB.out | apply below_alloc | apply pw_below_drewN | apply below_drew1) | exact HB.out)) hb); clear HO189; clear HB; have HO189 := n0_; have HB := n1_; clear n0_ n1_; (try clear hb); (try clear hb2); (try clear hk); (try clear hi)) | ((with_reducible refine gate_callee (f := 21) rfl ?_); refine goesL_ (some 61) rfl rfl Try.func21 (by kernel_rfl) rfl #[.int .i64 t202] rfl (by (try simp only [List.map_toArray, List.map_cons, List.map_nil]); first | done | rfl | (simp only [List.length_drop, List.length_take]; rfl)) ?_; (with_reducible refine (impl_FpRoot.calls k t202 t203 t204 _ A14.out).mono ?_); rintro e w30 ⟨rfl, hb⟩; refine ⟨_, rfl, ?_⟩; have n0_ := Aside0.mk (Kd.R_below (by (with_reducible repeat (first | apply Kd.R_alloc | apply Kd.R_drewN | apply Kd.R_drew)); exact HO189.out) hb); have n1_ := Aside0.mk (below_step (by repeat (first | (with_reducible first | exact HB.out | apply below_alloc | apply pw_below_drewN | apply below_drew1) | exact HB.out)) hb); clear HO189; clear HB; have HO189 := n0_; have HB := n1_; clear n0_ n1_; (try clear hb); (try clear hb2); (try clear hk); (try clear hi)) | ((with_reducible refine gate_callee (f := 24) rfl ?_); refine goesL_ (some 66) rfl rfl Try.func24 (by kernel_rfl) rfl #[.int .i64 t202] rfl (by (try simp only [List.map_toArray, List.map_cons, List.map_nil]); first | done | rfl | (simp only [List.length_drop, List.length_take]; rfl)) ?_; (with_reducible refine (spec_FpRoot.calls k t202 t205 t206 _ A15.out).mono ?_); rintro e w' ⟨rfl, ⟨nd, rfl⟩⟩; refine ⟨_, rfl, ?_⟩) | (go_at_call 22; (with_reducible refine (impl_FpMul.calls t195 t195 t207 _ A19.out).mono ?_); rintro e w' ⟨rfl, ⟨nd, rfl⟩⟩))
                      go_ret
                      exact ⟨by first | rfl | (simp [errW_none, errW_some] <;> rfl) | (simp [*, errW_none, errW_some] <;> rfl), by repeat (first | (with_reducible first | exact HB.out | apply below_alloc | apply pw_below_drewN | apply below_drew1) | exact HB.out)⟩
                  · rw [if_neg c22] at H
                    have c22b0 : (t204 == t206) = false := by simpa using c22
                    (try (have c22b1 : decide (t204 = t206) = false := by simpa using c22))
                    (try (have c22b2 : (t204 == t206) = false := by simpa using c22))
                    (try (have c22b3 : ¬ (t204 = t206) := by simpa using c22))
                    clear c22
                    exact absurd ((Option.some.inj H).trans HR.out) (by decide)
                · rw [if_neg c21] at H
                  have c21b0 : (t201 == (true == t198)) = false := by simpa using c21
                  (try (have c21b1 : decide (t201 = (true == t198)) = false := by simpa using c21))
                  (try (have c21b2 : (t201 == (true == t198)) = false := by simpa using c21))
                  (try (have c21b3 : ¬ (t201 = (true == t198)) := by simpa using c21))
                  clear c21
                  exact absurd ((Option.some.inj H).trans HR.out) (by decide)
              · rw [if_neg c20] at H
                have c20b0 : (t207 == (wrap64 (1 + (Int.tmod (rd t187 0) 12106)))) = false := beq_eq_false_iff_ne.mpr c20
                have c20b1 : (t207 != (wrap64 (1 + (Int.tmod (rd t187 0) 12106)))) = true := bne_iff_ne.mpr c20
                exact absurd ((Option.some.inj H).trans HR.out) (by decide)
            · replace c18 := Bool.eq_false_iff.mpr c18
              subst c18
              have H1 : (if (t201 == (false == t198)) = true then (if (t204 == t206) = true then (some (t203 == t205)) else (some false)) else (some false)) = some r := by rw [if_neg (show ¬ (false = true) by decide)] at H; exact H
              clear H
              have H := H1
              clear H1
              by_cases c55 : (t201 == (false == t198)) = true
              · rw [if_pos c55] at H
                have c55b0 : (t201 == (false == t198)) = true := c55
                (try (have c55b1 : decide (t201 = (false == t198)) = true := by simpa using c55))
                (try (have c55b2 : (t201 == (false == t198)) = true := by simpa using c55))
                clear c55
                by_cases c56 : (t204 == t206) = true
                · rw [if_pos c56] at H
                  have c56b0 : (t204 == t206) = true := c56
                  (try (have c56b1 : decide (t204 = t206) = true := by simpa using c56))
                  (try (have c56b2 : (t204 == t206) = true := by simpa using c56))
                  clear c56
                  obtain rfl := Option.some.inj H
                  have hfin := HR.out
                  rcases Bool.eq_false_or_eq_true t198 with e198 | e198 <;> rcases Bool.eq_false_or_eq_true t201 with e201 | e201 <;> (first | (have q := c21b0; rw [e198, e201] at q; exact absurd q (by decide)) | (have q := c55b0; rw [e198, e201] at q; exact absurd q (by decide)) | (have q := c86b0; rw [e198, e201] at q; exact absurd q (by decide)) | (have q := c120b0; rw [e198, e201] at q; exact absurd q (by decide)) | skip)
                  all_goals (rcases Bool.eq_false_or_eq_true t204 with e204 | e204 <;> rcases Bool.eq_false_or_eq_true t206 with e206 | e206 <;> (first | (have q := c22b0; rw [e204, e206] at q; exact absurd q (by decide)) | (have q := c56b0; rw [e204, e206] at q; exact absurd q (by decide)) | (have q := c87b0; rw [e204, e206] at q; exact absurd q (by decide)) | (have q := c121b0; rw [e204, e206] at q; exact absurd q (by decide)) | skip))
                  all_goals
                    go_enter Try.func6, Try.ntmps6
                    go_wp2_with (first | ((with_reducible refine gate_callee (f := 19) rfl ?_); refine goesL_ (some 20) rfl rfl Try.func19 (by kernel_rfl) rfl #[.slice A0 l0.length c0] rfl (by (try simp only [List.map_toArray, List.map_cons, List.map_nil]); first | done | rfl | (simp only [List.length_drop, List.length_take]; rfl)) ?_; (with_reducible refine (laws_big.calls _ _ l0 false _ ?side1 ?side2 A2.out).mono ?_); (case side1 => repeat (first | exact HR0.out | (with_reducible refine Kd.C_alloc ?_ _) | (with_reducible refine Kd.C_drewN ?_ _) | (with_reducible refine Kd.C_drew ?_))); (case side2 => exact HC0.out); rintro e w' ⟨rfl, ⟨nd, rfl⟩⟩; refine ⟨_, rfl, ?_⟩) | ((with_reducible refine gate_callee (f := 20) rfl ?_); refine goesL_ (some 22) rfl rfl Try.func20 (by kernel_rfl) rfl #[.slice A0 l0.length c0] rfl (by (try simp only [List.map_toArray, List.map_cons, List.map_nil]); first | done | rfl | (simp only [List.length_drop, List.length_take]; rfl)) ?_; (with_reducible refine (spec_DrawPlaces.calls k _ _ l0 t187 _ ?side1 ?side2 A4.out).mono ?_); (case side1 => repeat (first | exact HR0.out | (with_reducible refine Kd.C_alloc ?_ _) | (with_reducible refine Kd.C_drewN ?_ _) | (with_reducible refine Kd.C_drew ?_))); (case side2 => exact HC0.out); rintro e w57 ⟨v188, rfl, ho0, hb⟩; refine ⟨_, rfl, ?_⟩; have n0_ := Aside0.mk (Kd.R_lower ho0 (below_size (by repeat (first | (with_reducible first | exact HB.out | apply below_alloc | apply pw_below_drewN | apply below_drew1) | exact HB.out)))); have n1_ := Aside0.mk (below_step (by repeat (first | (with_reducible first | exact HB.out | apply below_alloc | apply pw_below_drewN | apply below_drew1) | exact HB.out)) hb); clear HB; have HO189 := n0_; have HB := n1_; clear n0_ n1_; (try clear hb); (try clear hb2); (try clear hk); (try clear hi); (try clear ho0); obtain ⟨Ao58, co58, eo58⟩ := Kd.R_slice HO189.out; subst eo58; have p190 : 0 ≤ (0 : Int) := (by omega); have q190 : 0 < (t187.length : Int) := of_decide_eq_true (by first | (with_reducible assumption) | assumption); obtain ⟨ad190, e190, hx190_0⟩ := Kd.at_int (Kd.R_reads' HO189.out).2.2 0 p190 q190; cases e190; have qi190 : (0 < t187.length) = True := eq_true (by omega); (try rw [show ((0 : Int)).toNat = 0 from rfl] at hx190_0); (try rw [Addr.add_zero'] at hx190_0); replace p190 := eq_true p190; replace q190 := eq_true q190; have p191 : 0 ≤ (1 : Int) := (by omega); have q191 : 1 < (t187.length : Int) := of_decide_eq_true (by first | (with_reducible assumption) | assumption); obtain ⟨ad191, e191, hx191_0⟩ := Kd.at_int (Kd.R_reads' HO189.out).2.2 1 p191 q191; obtain rfl : ad190 = ad191 := (by injection e191); (try simp only [show (1 : Int).toNat = 1 from rfl, Nat.reduceMul, Nat.reduceEqDiff, Go.Addr.add, ↓reduceIte] at hx191_0); have qi191 : (1 < t187.length) = True := eq_true (by omega); (try rw [show ((1 : Int)).toNat = 1 from rfl] at hx191_0); replace p191 := eq_true p191; replace q191 := eq_true q191) | ((with_reducible refine gate_callee (f := 22) rfl ?_); refine goesL_ (some 36) rfl rfl Try.func22 (by kernel_rfl) rfl #[.int .i64 (wrap64 (1 + (Int.tmod (rd t187 0) 12106))), .int .i64 (wrap64 (1 + (Int.tmod (rd t187 0) 12106)))] rfl (by (try simp only [List.map_toArray, List.map_cons, List.map_nil]); first | done | rfl | (simp only [List.length_drop, List.length_take]; rfl)) ?_; (with_reducible refine (impl_FpMul.calls (wrap64 (1 + (Int.tmod (rd t187 0) 12106))) (wrap64 (1 + (Int.tmod (rd t187 0) 12106))) t192 _ A7.out).mono ?_); rintro e w' ⟨rfl, ⟨nd, rfl⟩⟩; refine ⟨_, rfl, ?_⟩) | ((with_reducible refine gate_callee (f := 21) rfl ?_); refine goesL_ (some 37) rfl rfl Try.func21 (by kernel_rfl) rfl #[.int .i64 t192] rfl (by (try simp only [List.map_toArray, List.map_cons, List.map_nil]); first | done | rfl | (simp only [List.length_drop, List.length_take]; rfl)) ?_; (with_reducible refine (impl_FpRoot.calls k t192 t193 true _ A8.out).mono ?_); rintro e w59 ⟨rfl, hb⟩; refine ⟨_, rfl, ?_⟩; have n0_ := Aside0.mk (Kd.R_below (by (with_reducible repeat (first | apply Kd.R_alloc | apply Kd.R_drewN | apply Kd.R_drew)); exact HO189.out) hb); have n1_ := Aside0.mk (below_step (by repeat (first | (with_reducible first | exact HB.out | apply below_alloc | apply pw_below_drewN | apply below_drew1) | exact HB.out)) hb); clear HO189; clear HB; have HO189 := n0_; have HB := n1_; clear n0_ n1_; (try clear hb); (try clear hb2); (try clear hk); (try clear hi)) | ((with_reducible refine gate_callee (f := 21) rfl ?_); refine goesL_ (some 42) rfl rfl Try.func21 (by kernel_rfl) rfl #[.int .i64 (wrap64 (1 + (Int.tmod (rd t187 0) 12106)))] rfl (by (try simp only [List.map_toArray, List.map_cons, List.map_nil]); first | done | rfl | (simp only [List.length_drop, List.length_take]; rfl)) ?_; (with_reducible refine (impl_FpRoot.calls k (wrap64 (1 + (Int.tmod (rd t187 0) 12106))) t195 false _ A9.out).mono ?_); rintro e w60 ⟨rfl, hb⟩; refine ⟨_, rfl, ?_⟩; have n0_ := Aside0.mk (Kd.R_below (by (with_reducible repeat (first | apply Kd.R_alloc | apply Kd.R_drewN | apply Kd.R_drew)); exact HO189.out) hb); have n1_ := Aside0.mk (below_step (by repeat (first | (with_reducible first | exact HB.out | apply below_alloc | apply pw_below_drewN | apply below_drew1) | exact HB.out)) hb); clear HO189; clear HB; have HO189 := n0_; have HB := n1_; clear n0_ n1_; (try clear hb); (try clear hb2); (try clear hk); (try clear hi)) | ((with_reducible refine gate_callee (f := 21) rfl ?_); refine goesL_ (some 47) rfl rfl Try.func21 (by kernel_rfl) rfl #[.int .i64 (wrap64 (1 + (Int.tmod (rd t187 1) 12106)))] rfl (by (try simp only [List.map_toArray, List.map_cons, List.map_nil]); first | done | rfl | (simp only [List.length_drop, List.length_take]; rfl)) ?_; (with_reducible refine (impl_FpRoot.calls k (wrap64 (1 + (Int.tmod (rd t187 1) 12106))) t197 t198 _ A10.out).mono ?_); rintro e w61 ⟨rfl, hb⟩; refine ⟨_, rfl, ?_⟩; have n0_ := Aside0.mk (Kd.R_below (by (with_reducible repeat (first | apply Kd.R_alloc | apply Kd.R_drewN | apply Kd.R_drew)); exact HO189.out) hb); have n1_ := Aside0.mk (below_step (by repeat (first | (with_reducible first | exact HB.out | apply below_alloc | apply pw_below_drewN | apply below_drew1) | exact HB.out)) hb); clear HO189; clear HB; have HO189 := n0_; have HB := n1_; clear n0_ n1_; (try clear hb); (try clear hb2); (try clear hk); (try clear hi)) | ((with_reducible refine gate_callee (f := 22) rfl ?_); refine goesL_ (some 53) rfl rfl Try.func22 (by kernel_rfl) rfl #[.int .i64 (wrap64 (1 + (Int.tmod (rd t187 0) 12106))), .int .i64 (wrap64 (1 + (Int.tmod (rd t187 1) 12106)))] rfl (by (try simp only [List.map_toArray, List.map_cons, List.map_nil]); first | done | rfl | (simp only [List.length_drop, List.length_take]; rfl)) ?_; (with_reducible refine (impl_FpMul.calls (wrap64 (1 + (Int.tmod (rd t187 0) 12106))) (wrap64 (1 + (Int.tmod (rd t187 1) 12106))) t199 _ A11.out).mono ?_); rintro e w' ⟨rfl, ⟨nd, rfl⟩⟩; refine ⟨_, rfl, ?_⟩) | ((with_reducible refine gate_callee (f := 21) rfl ?_); refine goesL_ (some 54) rfl rfl Try.func21 (by kernel_rfl) rfl #[.int .i64 t199] rfl (by (try simp only [List.map_toArray, List.map_cons, List.map_nil]); first | done | rfl | (simp only [List.length_drop, List.length_take]; rfl)) ?_; (with_reducible refine (impl_FpRoot.calls k t199 t200 t201 _ A12.out).mono ?_); rintro e w62 ⟨rfl, hb⟩; refine ⟨_, rfl, ?_⟩; have n0_ := Aside0.mk (Kd.R_below (by (with_reducible repeat (first | apply Kd.R_alloc | apply Kd.R_drewN | apply Kd.R_drew)); exact HO189.out) hb); have n1_ := Aside0.mk (below_step (by repeat (first | (with_reducible first | exact HB.out | apply below_alloc | apply pw_below_drewN | apply below_drew1) | exact HB.out)) hb); clear HO189; clear HB; have HO189 := n0_; have HB := n1_; clear n0_ n1_; (try clear hb); (try clear hb2); (try clear hk); (try clear hi)) | ((with_reducible refine gate_callee (f := 23) rfl ?_); refine goesL_ (some 58) rfl rfl Try.func23 (by kernel_rfl) rfl #[.slice A0 l0.length c0] rfl (by (try simp only [List.map_toArray, List.map_cons, List.map_nil]); first | done | rfl | (simp only [List.length_drop, List.length_take]; rfl)) ?_; (with_reducible refine (spec_DrawFpRoot.calls k _ _ l0 t202 _ ?side1 ?side2 A13.out).mono ?_); (case side1 => repeat (first | exact (Kd.C_below HR0.out HB.out) | (with_reducible refine Kd.C_alloc ?_ _) | (with_reducible refine Kd.C_drewN ?_ _) | (with_reducible refine Kd.C_drew ?_))); (case side2 => exact HC0.out); rintro e w63 ⟨rfl, hb⟩; refine ⟨_, rfl, ?_⟩; have n0_ := Aside0.mk (Kd.R_below (by (with_reducible repeat (first | apply Kd.R_alloc | apply Kd.R_drewN | apply Kd.R_drew)); exact HO189.out) hb); have n1_ := Aside0.mk (below_step (by repeat (first | (with_reducible first | exact HB.out | apply below_alloc | apply pw_below_drewN | apply below_drew1) | exact HB.out)) hb); clear HO189; clear HB; have HO189 := n0_; have HB := n1_; clear n0_ n1_; (try clear hb); (try clear hb2); (try clear hk); (try clear hi)) | ((with_reducible refine gate_callee (f := 21) rfl ?_); refine goesL_ (some 61) rfl rfl Try.func21 (by kernel_rfl) rfl #[.int .i64 t202] rfl (by (try simp only [List.map_toArray, List.map_cons, List.map_nil]); first | done | rfl | (simp only [List.length_drop, List.length_take]; rfl)) ?_; (with_reducible refine (impl_FpRoot.calls k t202 t203 t204 _ A14.out).mono ?_); rintro e w64 ⟨rfl, hb⟩; refine ⟨_, rfl, ?_⟩; have n0_ := Aside0.mk (Kd.R_below (by (with_reducible repeat (first | apply Kd.R_alloc | apply Kd.R_drewN | apply Kd.R_drew)); exact HO189.out) hb); have n1_ := Aside0.mk (below_step (by repeat (first | (with_reducible first | exact HB.out | apply below_alloc | apply pw_below_drewN | apply below_drew1) | exact HB.out)) hb); clear HO189; clear HB; have HO189 := n0_; have HB := n1_; clear n0_ n1_; (try clear hb); (try clear hb2); (try clear hk); (try clear hi)) | ((with_reducible refine gate_callee (f := 24) rfl ?_); refine goesL_ (some 66) rfl rfl Try.func24 (by kernel_rfl) rfl #[.int .i64 t202] rfl (by (try simp only [List.map_toArray, List.map_cons, List.map_nil]); first | done | rfl | (simp only [List.length_drop, List.length_take]; rfl)) ?_; (with_reducible refine (spec_FpRoot.calls k t202 t205 t206 _ A15.out).mono ?_); rintro e w' ⟨rfl, ⟨nd, rfl⟩⟩; refine ⟨_, rfl, ?_⟩))
                    go_ret
                    exact ⟨by first | rfl | (simp [errW_none, errW_some] <;> rfl) | (simp [*, errW_none, errW_some] <;> rfl), by repeat (first | (with_reducible first | exact HB.out | apply below_alloc | apply pw_below_drewN | apply below_drew1) | exact HB.out)⟩
                · rw [if_neg c56] at H
                  have c56b0 : (t204 == t206) = false := by simpa using c56
                  (try (have c56b1 : decide (t204 = t206) = false := by simpa using c56))
                  (try (have c56b2 : (t204 == t206) = false := by simpa using c56))
                  (try (have c56b3 : ¬ (t204 = t206) := by simpa using c56))
                  clear c56
                  exact absurd ((Option.some.inj H).trans HR.out) (by decide)
              · rw [if_neg c55] at H
                have c55b0 : (t201 == (false == t198)) = false := by simpa using c55
                (try (have c55b1 : decide (t201 = (false == t198)) = false := by simpa using c55))
                (try (have c55b2 : (t201 == (false == t198)) = false := by simpa using c55))
                (try (have c55b3 : ¬ (t201 = (false == t198)) := by simpa using c55))
                clear c55
                exact absurd ((Option.some.inj H).trans HR.out) (by decide)
          · rw [if_neg c17] at H
            have c17b0 : (t193 == (wrap64 (1 + (Int.tmod (rd t187 0) 12106)))) = false := beq_eq_false_iff_ne.mpr c17
            have c17b1 : (t193 != (wrap64 (1 + (Int.tmod (rd t187 0) 12106)))) = true := bne_iff_ne.mpr c17
            replace H := Option.bind_eq_some_iff.mp H
            obtain ⟨t208, A810, H⟩ := H
            replace H : (if t208 = 0 then (if t196 = true then ((impl_FpMul.f t195 t195).bind fun t209 => (if t209 = (wrap64 (1 + (Int.tmod (rd t187 0) 12106))) then (if (t201 == (t196 == t198)) = true then (if (t204 == t206) = true then (some (t203 == t205)) else (some false)) else (some false)) else (some false))) else (if (t201 == (t196 == t198)) = true then (if (t204 == t206) = true then (some (t203 == t205)) else (some false)) else (some false))) else (some false)) = some r := H
            have A81 := Aside0.mk A810
            clear A810
            by_cases c82 : t208 = 0
            · rw [if_pos c82] at H
              have c82b0 : (t208 == 0) = true := beq_iff_eq.mpr c82
              have c82b1 : (t208 != 0) = false := bne_eq_false_iff_eq.mpr c82
              clear c82
              by_cases c83 : t196 = true
              · subst c83
                have H1 : ((impl_FpMul.f t195 t195).bind fun t209 => (if t209 = (wrap64 (1 + (Int.tmod (rd t187 0) 12106))) then (if (t201 == (true == t198)) = true then (if (t204 == t206) = true then (some (t203 == t205)) else (some false)) else (some false)) else (some false))) = some r := by rw [if_pos rfl] at H; exact H
                clear H
                have H := H1
                clear H1
                replace H := Option.bind_eq_some_iff.mp H
                obtain ⟨t209, A840, H⟩ := H
                replace H : (if t209 = (wrap64 (1 + (Int.tmod (rd t187 0) 12106))) then (if (t201 == (true == t198)) = true then (if (t204 == t206) = true then (some (t203 == t205)) else (some false)) else (some false)) else (some false)) = some r := H
                have A84 := Aside0.mk A840
                clear A840
                by_cases c85 : t209 = (wrap64 (1 + (Int.tmod (rd t187 0) 12106)))
                · rw [if_pos c85] at H
                  have c85b0 : (t209 == (wrap64 (1 + (Int.tmod (rd t187 0) 12106)))) = true := beq_iff_eq.mpr c85
                  have c85b1 : (t209 != (wrap64 (1 + (Int.tmod (rd t187 0) 12106)))) = false := bne_eq_false_iff_eq.mpr c85
                  clear c85
                  by_cases c86 : (t201 == (true == t198)) = true
                  · rw [if_pos c86] at H
                    have c86b0 : (t201 == (true == t198)) = true := c86
                    (try (have c86b1 : decide (t201 = (true == t198)) = true := by simpa using c86))
                    (try (have c86b2 : (t201 == (true == t198)) = true := by simpa using c86))
                    clear c86
                    by_cases c87 : (t204 == t206) = true
                    · rw [if_pos c87] at H
                      have c87b0 : (t204 == t206) = true := c87
                      (try (have c87b1 : decide (t204 = t206) = true := by simpa using c87))
                      (try (have c87b2 : (t204 == t206) = true := by simpa using c87))
                      clear c87
                      obtain rfl := Option.some.inj H
                      have hfin := HR.out
                      rcases Bool.eq_false_or_eq_true t198 with e198 | e198 <;> rcases Bool.eq_false_or_eq_true t201 with e201 | e201 <;> (first | (have q := c21b0; rw [e198, e201] at q; exact absurd q (by decide)) | (have q := c55b0; rw [e198, e201] at q; exact absurd q (by decide)) | (have q := c86b0; rw [e198, e201] at q; exact absurd q (by decide)) | (have q := c120b0; rw [e198, e201] at q; exact absurd q (by decide)) | skip)
                      all_goals (rcases Bool.eq_false_or_eq_true t204 with e204 | e204 <;> rcases Bool.eq_false_or_eq_true t206 with e206 | e206 <;> (first | (have q := c22b0; rw [e204, e206] at q; exact absurd q (by decide)) | (have q := c56b0; rw [e204, e206] at q; exact absurd q (by decide)) | (have q := c87b0; rw [e204, e206] at q; exact absurd q (by decide)) | (have q := c121b0; rw [e204, e206] at q; exact absurd q (by decide)) | skip))
                      all_goals
                        go_enter Try.func6, Try.ntmps6
                        go_wp2_with (first | ((with_reducible refine gate_callee (f := 19) rfl ?_); refine goesL_ (some 20) rfl rfl Try.func19 (by kernel_rfl) rfl #[.slice A0 l0.length c0] rfl (by (try simp only [List.map_toArray, List.map_cons, List.map_nil]); first | done | rfl | (simp only [List.length_drop, List.length_take]; rfl)) ?_; (with_reducible refine (laws_big.calls _ _ l0 false _ ?side1 ?side2 A2.out).mono ?_); (case side1 => repeat (first | exact HR0.out | (with_reducible refine Kd.C_alloc ?_ _) | (with_reducible refine Kd.C_drewN ?_ _) | (with_reducible refine Kd.C_drew ?_))); (case side2 => exact HC0.out); rintro e w' ⟨rfl, ⟨nd, rfl⟩⟩; refine ⟨_, rfl, ?_⟩) | ((with_reducible refine gate_callee (f := 20) rfl ?_); refine goesL_ (some 22) rfl rfl Try.func20 (by kernel_rfl) rfl #[.slice A0 l0.length c0] rfl (by (try simp only [List.map_toArray, List.map_cons, List.map_nil]); first | done | rfl | (simp only [List.length_drop, List.length_take]; rfl)) ?_; (with_reducible refine (spec_DrawPlaces.calls k _ _ l0 t187 _ ?side1 ?side2 A4.out).mono ?_); (case side1 => repeat (first | exact HR0.out | (with_reducible refine Kd.C_alloc ?_ _) | (with_reducible refine Kd.C_drewN ?_ _) | (with_reducible refine Kd.C_drew ?_))); (case side2 => exact HC0.out); rintro e w88 ⟨v188, rfl, ho0, hb⟩; refine ⟨_, rfl, ?_⟩; have n0_ := Aside0.mk (Kd.R_lower ho0 (below_size (by repeat (first | (with_reducible first | exact HB.out | apply below_alloc | apply pw_below_drewN | apply below_drew1) | exact HB.out)))); have n1_ := Aside0.mk (below_step (by repeat (first | (with_reducible first | exact HB.out | apply below_alloc | apply pw_below_drewN | apply below_drew1) | exact HB.out)) hb); clear HB; have HO189 := n0_; have HB := n1_; clear n0_ n1_; (try clear hb); (try clear hb2); (try clear hk); (try clear hi); (try clear ho0); obtain ⟨Ao89, co89, eo89⟩ := Kd.R_slice HO189.out; subst eo89; have p190 : 0 ≤ (0 : Int) := (by omega); have q190 : 0 < (t187.length : Int) := of_decide_eq_true (by first | (with_reducible assumption) | assumption); obtain ⟨ad190, e190, hx190_0⟩ := Kd.at_int (Kd.R_reads' HO189.out).2.2 0 p190 q190; cases e190; have qi190 : (0 < t187.length) = True := eq_true (by omega); (try rw [show ((0 : Int)).toNat = 0 from rfl] at hx190_0); (try rw [Addr.add_zero'] at hx190_0); replace p190 := eq_true p190; replace q190 := eq_true q190; have p191 : 0 ≤ (1 : Int) := (by omega); have q191 : 1 < (t187.length : Int) := of_decide_eq_true (by first | (with_reducible assumption) | assumption); obtain ⟨ad191, e191, hx191_0⟩ := Kd.at_int (Kd.R_reads' HO189.out).2.2 1 p191 q191; obtain rfl : ad190 = ad191 := (by injection e191); (try simp only [show (1 : Int).toNat = 1 from rfl, Nat.reduceMul, Nat.reduceEqDiff, Go.Addr.add, ↓reduceIte] at hx191_0); have qi191 : (1 < t187.length) = True := eq_true (by omega); (try rw [show ((1 : Int)).toNat = 1 from rfl] at hx191_0); replace p191 := eq_true p191; replace q191 := eq_true q191) | ((with_reducible refine gate_callee (f := 22) rfl ?_); refine goesL_ (some 36) rfl rfl Try.func22 (by kernel_rfl) rfl #[.int .i64 (wrap64 (1 + (Int.tmod (rd t187 0) 12106))), .int .i64 (wrap64 (1 + (Int.tmod (rd t187 0) 12106)))] rfl (by (try simp only [List.map_toArray, List.map_cons, List.map_nil]); first | done | rfl | (simp only [List.length_drop, List.length_take]; rfl)) ?_; (with_reducible refine (impl_FpMul.calls (wrap64 (1 + (Int.tmod (rd t187 0) 12106))) (wrap64 (1 + (Int.tmod (rd t187 0) 12106))) t192 _ A7.out).mono ?_); rintro e w' ⟨rfl, ⟨nd, rfl⟩⟩; refine ⟨_, rfl, ?_⟩) | ((with_reducible refine gate_callee (f := 21) rfl ?_); refine goesL_ (some 37) rfl rfl Try.func21 (by kernel_rfl) rfl #[.int .i64 t192] rfl (by (try simp only [List.map_toArray, List.map_cons, List.map_nil]); first | done | rfl | (simp only [List.length_drop, List.length_take]; rfl)) ?_; (with_reducible refine (impl_FpRoot.calls k t192 t193 true _ A8.out).mono ?_); rintro e w90 ⟨rfl, hb⟩; refine ⟨_, rfl, ?_⟩; have n0_ := Aside0.mk (Kd.R_below (by (with_reducible repeat (first | apply Kd.R_alloc | apply Kd.R_drewN | apply Kd.R_drew)); exact HO189.out) hb); have n1_ := Aside0.mk (below_step (by repeat (first | (with_reducible first | exact HB.out | apply below_alloc | apply pw_below_drewN | apply below_drew1) | exact HB.out)) hb); clear HO189; clear HB; have HO189 := n0_; have HB := n1_; clear n0_ n1_; (try clear hb); (try clear hb2); (try clear hk); (try clear hi)) | ((with_reducible refine gate_callee (f := 21) rfl ?_); refine goesL_ (some 42) rfl rfl Try.func21 (by kernel_rfl) rfl #[.int .i64 (wrap64 (1 + (Int.tmod (rd t187 0) 12106)))] rfl (by (try simp only [List.map_toArray, List.map_cons, List.map_nil]); first | done | rfl | (simp only [List.length_drop, List.length_take]; rfl)) ?_; (with_reducible refine (impl_FpRoot.calls k (wrap64 (1 + (Int.tmod (rd t187 0) 12106))) t195 true _ A9.out).mono ?_); rintro e w91 ⟨rfl, hb⟩; refine ⟨_, rfl, ?_⟩; have n0_ := Aside0.mk (Kd.R_below (by (with_reducible repeat (first | apply Kd.R_alloc | apply Kd.R_drewN | apply Kd.R_drew)); exact HO189.out) hb); have n1_ := Aside0.mk (below_step (by repeat (first | (with_reducible first | exact HB.out | apply below_alloc | apply pw_below_drewN | apply below_drew1) | exact HB.out)) hb); clear HO189; clear HB; have HO189 := n0_; have HB := n1_; clear n0_ n1_; (try clear hb); (try clear hb2); (try clear hk); (try clear hi)) | ((with_reducible refine gate_callee (f := 21) rfl ?_); refine goesL_ (some 47) rfl rfl Try.func21 (by kernel_rfl) rfl #[.int .i64 (wrap64 (1 + (Int.tmod (rd t187 1) 12106)))] rfl (by (try simp only [List.map_toArray, List.map_cons, List.map_nil]); first | done | rfl | (simp only [List.length_drop, List.length_take]; rfl)) ?_; (with_reducible refine (impl_FpRoot.calls k (wrap64 (1 + (Int.tmod (rd t187 1) 12106))) t197 t198 _ A10.out).mono ?_); rintro e w92 ⟨rfl, hb⟩; refine ⟨_, rfl, ?_⟩; have n0_ := Aside0.mk (Kd.R_below (by (with_reducible repeat (first | apply Kd.R_alloc | apply Kd.R_drewN | apply Kd.R_drew)); exact HO189.out) hb); have n1_ := Aside0.mk (below_step (by repeat (first | (with_reducible first | exact HB.out | apply below_alloc | apply pw_below_drewN | apply below_drew1) | exact HB.out)) hb); clear HO189; clear HB; have HO189 := n0_; have HB := n1_; clear n0_ n1_; (try clear hb); (try clear hb2); (try clear hk); (try clear hi)) | ((with_reducible refine gate_callee (f := 22) rfl ?_); refine goesL_ (some 53) rfl rfl Try.func22 (by kernel_rfl) rfl #[.int .i64 (wrap64 (1 + (Int.tmod (rd t187 0) 12106))), .int .i64 (wrap64 (1 + (Int.tmod (rd t187 1) 12106)))] rfl (by (try simp only [List.map_toArray, List.map_cons, List.map_nil]); first | done | rfl | (simp only [List.length_drop, List.length_take]; rfl)) ?_; (with_reducible refine (impl_FpMul.calls (wrap64 (1 + (Int.tmod (rd t187 0) 12106))) (wrap64 (1 + (Int.tmod (rd t187 1) 12106))) t199 _ A11.out).mono ?_); rintro e w' ⟨rfl, ⟨nd, rfl⟩⟩; refine ⟨_, rfl, ?_⟩) | ((with_reducible refine gate_callee (f := 21) rfl ?_); refine goesL_ (some 54) rfl rfl Try.func21 (by kernel_rfl) rfl #[.int .i64 t199] rfl (by (try simp only [List.map_toArray, List.map_cons, List.map_nil]); first | done | rfl | (simp only [List.length_drop, List.length_take]; rfl)) ?_; (with_reducible refine (impl_FpRoot.calls k t199 t200 t201 _ A12.out).mono ?_); rintro e w93 ⟨rfl, hb⟩; refine ⟨_, rfl, ?_⟩; have n0_ := Aside0.mk (Kd.R_below (by (with_reducible repeat (first | apply Kd.R_alloc | apply Kd.R_drewN | apply Kd.R_drew)); exact HO189.out) hb); have n1_ := Aside0.mk (below_step (by repeat (first | (with_reducible first | exact HB.out | apply below_alloc | apply pw_below_drewN | apply below_drew1) | exact HB.out)) hb); clear HO189; clear HB; have HO189 := n0_; have HB := n1_; clear n0_ n1_; (try clear hb); (try clear hb2); (try clear hk); (try clear hi)) | ((with_reducible refine gate_callee (f := 23) rfl ?_); refine goesL_ (some 58) rfl rfl Try.func23 (by kernel_rfl) rfl #[.slice A0 l0.length c0] rfl (by (try simp only [List.map_toArray, List.map_cons, List.map_nil]); first | done | rfl | (simp only [List.length_drop, List.length_take]; rfl)) ?_; (with_reducible refine (spec_DrawFpRoot.calls k _ _ l0 t202 _ ?side1 ?side2 A13.out).mono ?_); (case side1 => repeat (first | exact (Kd.C_below HR0.out HB.out) | (with_reducible refine Kd.C_alloc ?_ _) | (with_reducible refine Kd.C_drewN ?_ _) | (with_reducible refine Kd.C_drew ?_))); (case side2 => exact HC0.out); rintro e w94 ⟨rfl, hb⟩; refine ⟨_, rfl, ?_⟩; have n0_ := Aside0.mk (Kd.R_below (by (with_reducible repeat (first | apply Kd.R_alloc | apply Kd.R_drewN | apply Kd.R_drew)); exact HO189.out) hb); have n1_ := Aside0.mk (below_step (by repeat (first | (with_reducible first | exact HB.out | apply below_alloc | apply pw_below_drewN | apply below_drew1) | exact HB.out)) hb); clear HO189; clear HB; have HO189 := n0_; have HB := n1_; clear n0_ n1_; (try clear hb); (try clear hb2); (try clear hk); (try clear hi)) | ((with_reducible refine gate_callee (f := 21) rfl ?_); refine goesL_ (some 61) rfl rfl Try.func21 (by kernel_rfl) rfl #[.int .i64 t202] rfl (by (try simp only [List.map_toArray, List.map_cons, List.map_nil]); first | done | rfl | (simp only [List.length_drop, List.length_take]; rfl)) ?_; (with_reducible refine (impl_FpRoot.calls k t202 t203 t204 _ A14.out).mono ?_); rintro e w95 ⟨rfl, hb⟩; refine ⟨_, rfl, ?_⟩; have n0_ := Aside0.mk (Kd.R_below (by (with_reducible repeat (first | apply Kd.R_alloc | apply Kd.R_drewN | apply Kd.R_drew)); exact HO189.out) hb); have n1_ := Aside0.mk (below_step (by repeat (first | (with_reducible first | exact HB.out | apply below_alloc | apply pw_below_drewN | apply below_drew1) | exact HB.out)) hb); clear HO189; clear HB; have HO189 := n0_; have HB := n1_; clear n0_ n1_; (try clear hb); (try clear hb2); (try clear hk); (try clear hi)) | ((with_reducible refine gate_callee (f := 24) rfl ?_); refine goesL_ (some 66) rfl rfl Try.func24 (by kernel_rfl) rfl #[.int .i64 t202] rfl (by (try simp only [List.map_toArray, List.map_cons, List.map_nil]); first | done | rfl | (simp only [List.length_drop, List.length_take]; rfl)) ?_; (with_reducible refine (spec_FpRoot.calls k t202 t205 t206 _ A15.out).mono ?_); rintro e w' ⟨rfl, ⟨nd, rfl⟩⟩; refine ⟨_, rfl, ?_⟩) | (go_at_call 25; (with_reducible refine (impl_FpAdd.calls t193 (wrap64 (1 + (Int.tmod (rd t187 0) 12106))) t208 _ A81.out).mono ?_); rintro e w' ⟨rfl, ⟨nd, rfl⟩⟩) | (go_at_call 22; (with_reducible refine (impl_FpMul.calls t195 t195 t209 _ A84.out).mono ?_); rintro e w' ⟨rfl, ⟨nd, rfl⟩⟩))
                        go_ret
                        exact ⟨by first | rfl | (simp [errW_none, errW_some] <;> rfl) | (simp [*, errW_none, errW_some] <;> rfl), by repeat (first | (with_reducible first | exact HB.out | apply below_alloc | apply pw_below_drewN | apply below_drew1) | exact HB.out)⟩
                    · rw [if_neg c87] at H
                      have c87b0 : (t204 == t206) = false := by simpa using c87
                      (try (have c87b1 : decide (t204 = t206) = false := by simpa using c87))
                      (try (have c87b2 : (t204 == t206) = false := by simpa using c87))
                      (try (have c87b3 : ¬ (t204 = t206) := by simpa using c87))
                      clear c87
                      exact absurd ((Option.some.inj H).trans HR.out) (by decide)
                  · rw [if_neg c86] at H
                    have c86b0 : (t201 == (true == t198)) = false := by simpa using c86
                    (try (have c86b1 : decide (t201 = (true == t198)) = false := by simpa using c86))
                    (try (have c86b2 : (t201 == (true == t198)) = false := by simpa using c86))
                    (try (have c86b3 : ¬ (t201 = (true == t198)) := by simpa using c86))
                    clear c86
                    exact absurd ((Option.some.inj H).trans HR.out) (by decide)
                · rw [if_neg c85] at H
                  have c85b0 : (t209 == (wrap64 (1 + (Int.tmod (rd t187 0) 12106)))) = false := beq_eq_false_iff_ne.mpr c85
                  have c85b1 : (t209 != (wrap64 (1 + (Int.tmod (rd t187 0) 12106)))) = true := bne_iff_ne.mpr c85
                  exact absurd ((Option.some.inj H).trans HR.out) (by decide)
              · replace c83 := Bool.eq_false_iff.mpr c83
                subst c83
                have H1 : (if (t201 == (false == t198)) = true then (if (t204 == t206) = true then (some (t203 == t205)) else (some false)) else (some false)) = some r := by rw [if_neg (show ¬ (false = true) by decide)] at H; exact H
                clear H
                have H := H1
                clear H1
                by_cases c120 : (t201 == (false == t198)) = true
                · rw [if_pos c120] at H
                  have c120b0 : (t201 == (false == t198)) = true := c120
                  (try (have c120b1 : decide (t201 = (false == t198)) = true := by simpa using c120))
                  (try (have c120b2 : (t201 == (false == t198)) = true := by simpa using c120))
                  clear c120
                  by_cases c121 : (t204 == t206) = true
                  · rw [if_pos c121] at H
                    have c121b0 : (t204 == t206) = true := c121
                    (try (have c121b1 : decide (t204 = t206) = true := by simpa using c121))
                    (try (have c121b2 : (t204 == t206) = true := by simpa using c121))
                    clear c121
                    obtain rfl := Option.some.inj H
                    have hfin := HR.out
                    rcases Bool.eq_false_or_eq_true t198 with e198 | e198 <;> rcases Bool.eq_false_or_eq_true t201 with e201 | e201 <;> (first | (have q := c21b0; rw [e198, e201] at q; exact absurd q (by decide)) | (have q := c55b0; rw [e198, e201] at q; exact absurd q (by decide)) | (have q := c86b0; rw [e198, e201] at q; exact absurd q (by decide)) | (have q := c120b0; rw [e198, e201] at q; exact absurd q (by decide)) | skip)
                    all_goals (rcases Bool.eq_false_or_eq_true t204 with e204 | e204 <;> rcases Bool.eq_false_or_eq_true t206 with e206 | e206 <;> (first | (have q := c22b0; rw [e204, e206] at q; exact absurd q (by decide)) | (have q := c56b0; rw [e204, e206] at q; exact absurd q (by decide)) | (have q := c87b0; rw [e204, e206] at q; exact absurd q (by decide)) | (have q := c121b0; rw [e204, e206] at q; exact absurd q (by decide)) | skip))
                    all_goals
                      go_enter Try.func6, Try.ntmps6
                      go_wp2_with (first | ((with_reducible refine gate_callee (f := 19) rfl ?_); refine goesL_ (some 20) rfl rfl Try.func19 (by kernel_rfl) rfl #[.slice A0 l0.length c0] rfl (by (try simp only [List.map_toArray, List.map_cons, List.map_nil]); first | done | rfl | (simp only [List.length_drop, List.length_take]; rfl)) ?_; (with_reducible refine (laws_big.calls _ _ l0 false _ ?side1 ?side2 A2.out).mono ?_); (case side1 => repeat (first | exact HR0.out | (with_reducible refine Kd.C_alloc ?_ _) | (with_reducible refine Kd.C_drewN ?_ _) | (with_reducible refine Kd.C_drew ?_))); (case side2 => exact HC0.out); rintro e w' ⟨rfl, ⟨nd, rfl⟩⟩; refine ⟨_, rfl, ?_⟩) | ((with_reducible refine gate_callee (f := 20) rfl ?_); refine goesL_ (some 22) rfl rfl Try.func20 (by kernel_rfl) rfl #[.slice A0 l0.length c0] rfl (by (try simp only [List.map_toArray, List.map_cons, List.map_nil]); first | done | rfl | (simp only [List.length_drop, List.length_take]; rfl)) ?_; (with_reducible refine (spec_DrawPlaces.calls k _ _ l0 t187 _ ?side1 ?side2 A4.out).mono ?_); (case side1 => repeat (first | exact HR0.out | (with_reducible refine Kd.C_alloc ?_ _) | (with_reducible refine Kd.C_drewN ?_ _) | (with_reducible refine Kd.C_drew ?_))); (case side2 => exact HC0.out); rintro e w122 ⟨v188, rfl, ho0, hb⟩; refine ⟨_, rfl, ?_⟩; have n0_ := Aside0.mk (Kd.R_lower ho0 (below_size (by repeat (first | (with_reducible first | exact HB.out | apply below_alloc | apply pw_below_drewN | apply below_drew1) | exact HB.out)))); have n1_ := Aside0.mk (below_step (by repeat (first | (with_reducible first | exact HB.out | apply below_alloc | apply pw_below_drewN | apply below_drew1) | exact HB.out)) hb); clear HB; have HO189 := n0_; have HB := n1_; clear n0_ n1_; (try clear hb); (try clear hb2); (try clear hk); (try clear hi); (try clear ho0); obtain ⟨Ao123, co123, eo123⟩ := Kd.R_slice HO189.out; subst eo123; have p190 : 0 ≤ (0 : Int) := (by omega); have q190 : 0 < (t187.length : Int) := of_decide_eq_true (by first | (with_reducible assumption) | assumption); obtain ⟨ad190, e190, hx190_0⟩ := Kd.at_int (Kd.R_reads' HO189.out).2.2 0 p190 q190; cases e190; have qi190 : (0 < t187.length) = True := eq_true (by omega); (try rw [show ((0 : Int)).toNat = 0 from rfl] at hx190_0); (try rw [Addr.add_zero'] at hx190_0); replace p190 := eq_true p190; replace q190 := eq_true q190; have p191 : 0 ≤ (1 : Int) := (by omega); have q191 : 1 < (t187.length : Int) := of_decide_eq_true (by first | (with_reducible assumption) | assumption); obtain ⟨ad191, e191, hx191_0⟩ := Kd.at_int (Kd.R_reads' HO189.out).2.2 1 p191 q191; obtain rfl : ad190 = ad191 := (by injection e191); (try simp only [show (1 : Int).toNat = 1 from rfl, Nat.reduceMul, Nat.reduceEqDiff, Go.Addr.add, ↓reduceIte] at hx191_0); have qi191 : (1 < t187.length) = True := eq_true (by omega); (try rw [show ((1 : Int)).toNat = 1 from rfl] at hx191_0); replace p191 := eq_true p191; replace q191 := eq_true q191) | ((with_reducible refine gate_callee (f := 22) rfl ?_); refine goesL_ (some 36) rfl rfl Try.func22 (by kernel_rfl) rfl #[.int .i64 (wrap64 (1 + (Int.tmod (rd t187 0) 12106))), .int .i64 (wrap64 (1 + (Int.tmod (rd t187 0) 12106)))] rfl (by (try simp only [List.map_toArray, List.map_cons, List.map_nil]); first | done | rfl | (simp only [List.length_drop, List.length_take]; rfl)) ?_; (with_reducible refine (impl_FpMul.calls (wrap64 (1 + (Int.tmod (rd t187 0) 12106))) (wrap64 (1 + (Int.tmod (rd t187 0) 12106))) t192 _ A7.out).mono ?_); rintro e w' ⟨rfl, ⟨nd, rfl⟩⟩; refine ⟨_, rfl, ?_⟩) | ((with_reducible refine gate_callee (f := 21) rfl ?_); refine goesL_ (some 37) rfl rfl Try.func21 (by kernel_rfl) rfl #[.int .i64 t192] rfl (by (try simp only [List.map_toArray, List.map_cons, List.map_nil]); first | done | rfl | (simp only [List.length_drop, List.length_take]; rfl)) ?_; (with_reducible refine (impl_FpRoot.calls k t192 t193 true _ A8.out).mono ?_); rintro e w124 ⟨rfl, hb⟩; refine ⟨_, rfl, ?_⟩; have n0_ := Aside0.mk (Kd.R_below (by (with_reducible repeat (first | apply Kd.R_alloc | apply Kd.R_drewN | apply Kd.R_drew)); exact HO189.out) hb); have n1_ := Aside0.mk (below_step (by repeat (first | (with_reducible first | exact HB.out | apply below_alloc | apply pw_below_drewN | apply below_drew1) | exact HB.out)) hb); clear HO189; clear HB; have HO189 := n0_; have HB := n1_; clear n0_ n1_; (try clear hb); (try clear hb2); (try clear hk); (try clear hi)) | ((with_reducible refine gate_callee (f := 21) rfl ?_); refine goesL_ (some 42) rfl rfl Try.func21 (by kernel_rfl) rfl #[.int .i64 (wrap64 (1 + (Int.tmod (rd t187 0) 12106)))] rfl (by (try simp only [List.map_toArray, List.map_cons, List.map_nil]); first | done | rfl | (simp only [List.length_drop, List.length_take]; rfl)) ?_; (with_reducible refine (impl_FpRoot.calls k (wrap64 (1 + (Int.tmod (rd t187 0) 12106))) t195 false _ A9.out).mono ?_); rintro e w125 ⟨rfl, hb⟩; refine ⟨_, rfl, ?_⟩; have n0_ := Aside0.mk (Kd.R_below (by (with_reducible repeat (first | apply Kd.R_alloc | apply Kd.R_drewN | apply Kd.R_drew)); exact HO189.out) hb); have n1_ := Aside0.mk (below_step (by repeat (first | (with_reducible first | exact HB.out | apply below_alloc | apply pw_below_drewN | apply below_drew1) | exact HB.out)) hb); clear HO189; clear HB; have HO189 := n0_; have HB := n1_; clear n0_ n1_; (try clear hb); (try clear hb2); (try clear hk); (try clear hi)) | ((with_reducible refine gate_callee (f := 21) rfl ?_); refine goesL_ (some 47) rfl rfl Try.func21 (by kernel_rfl) rfl #[.int .i64 (wrap64 (1 + (Int.tmod (rd t187 1) 12106)))] rfl (by (try simp only [List.map_toArray, List.map_cons, List.map_nil]); first | done | rfl | (simp only [List.length_drop, List.length_take]; rfl)) ?_; (with_reducible refine (impl_FpRoot.calls k (wrap64 (1 + (Int.tmod (rd t187 1) 12106))) t197 t198 _ A10.out).mono ?_); rintro e w126 ⟨rfl, hb⟩; refine ⟨_, rfl, ?_⟩; have n0_ := Aside0.mk (Kd.R_below (by (with_reducible repeat (first | apply Kd.R_alloc | apply Kd.R_drewN | apply Kd.R_drew)); exact HO189.out) hb); have n1_ := Aside0.mk (below_step (by repeat (first | (with_reducible first | exact HB.out | apply below_alloc | apply pw_below_drewN | apply below_drew1) | exact HB.out)) hb); clear HO189; clear HB; have HO189 := n0_; have HB := n1_; clear n0_ n1_; (try clear hb); (try clear hb2); (try clear hk); (try clear hi)) | ((with_reducible refine gate_callee (f := 22) rfl ?_); refine goesL_ (some 53) rfl rfl Try.func22 (by kernel_rfl) rfl #[.int .i64 (wrap64 (1 + (Int.tmod (rd t187 0) 12106))), .int .i64 (wrap64 (1 + (Int.tmod (rd t187 1) 12106)))] rfl (by (try simp only [List.map_toArray, List.map_cons, List.map_nil]); first | done | rfl | (simp only [List.length_drop, List.length_take]; rfl)) ?_; (with_reducible refine (impl_FpMul.calls (wrap64 (1 + (Int.tmod (rd t187 0) 12106))) (wrap64 (1 + (Int.tmod (rd t187 1) 12106))) t199 _ A11.out).mono ?_); rintro e w' ⟨rfl, ⟨nd, rfl⟩⟩; refine ⟨_, rfl, ?_⟩) | ((with_reducible refine gate_callee (f := 21) rfl ?_); refine goesL_ (some 54) rfl rfl Try.func21 (by kernel_rfl) rfl #[.int .i64 t199] rfl (by (try simp only [List.map_toArray, List.map_cons, List.map_nil]); first | done | rfl | (simp only [List.length_drop, List.length_take]; rfl)) ?_; (with_reducible refine (impl_FpRoot.calls k t199 t200 t201 _ A12.out).mono ?_); rintro e w127 ⟨rfl, hb⟩; refine ⟨_, rfl, ?_⟩; have n0_ := Aside0.mk (Kd.R_below (by (with_reducible repeat (first | apply Kd.R_alloc | apply Kd.R_drewN | apply Kd.R_drew)); exact HO189.out) hb); have n1_ := Aside0.mk (below_step (by repeat (first | (with_reducible first | exact HB.out | apply below_alloc | apply pw_below_drewN | apply below_drew1) | exact HB.out)) hb); clear HO189; clear HB; have HO189 := n0_; have HB := n1_; clear n0_ n1_; (try clear hb); (try clear hb2); (try clear hk); (try clear hi)) | ((with_reducible refine gate_callee (f := 23) rfl ?_); refine goesL_ (some 58) rfl rfl Try.func23 (by kernel_rfl) rfl #[.slice A0 l0.length c0] rfl (by (try simp only [List.map_toArray, List.map_cons, List.map_nil]); first | done | rfl | (simp only [List.length_drop, List.length_take]; rfl)) ?_; (with_reducible refine (spec_DrawFpRoot.calls k _ _ l0 t202 _ ?side1 ?side2 A13.out).mono ?_); (case side1 => repeat (first | exact (Kd.C_below HR0.out HB.out) | (with_reducible refine Kd.C_alloc ?_ _) | (with_reducible refine Kd.C_drewN ?_ _) | (with_reducible refine Kd.C_drew ?_))); (case side2 => exact HC0.out); rintro e w128 ⟨rfl, hb⟩; refine ⟨_, rfl, ?_⟩; have n0_ := Aside0.mk (Kd.R_below (by (with_reducible repeat (first | apply Kd.R_alloc | apply Kd.R_drewN | apply Kd.R_drew)); exact HO189.out) hb); have n1_ := Aside0.mk (below_step (by repeat (first | (with_reducible first | exact HB.out | apply below_alloc | apply pw_below_drewN | apply below_drew1) | exact HB.out)) hb); clear HO189; clear HB; have HO189 := n0_; have HB := n1_; clear n0_ n1_; (try clear hb); (try clear hb2); (try clear hk); (try clear hi)) | ((with_reducible refine gate_callee (f := 21) rfl ?_); refine goesL_ (some 61) rfl rfl Try.func21 (by kernel_rfl) rfl #[.int .i64 t202] rfl (by (try simp only [List.map_toArray, List.map_cons, List.map_nil]); first | done | rfl | (simp only [List.length_drop, List.length_take]; rfl)) ?_; (with_reducible refine (impl_FpRoot.calls k t202 t203 t204 _ A14.out).mono ?_); rintro e w129 ⟨rfl, hb⟩; refine ⟨_, rfl, ?_⟩; have n0_ := Aside0.mk (Kd.R_below (by (with_reducible repeat (first | apply Kd.R_alloc | apply Kd.R_drewN | apply Kd.R_drew)); exact HO189.out) hb); have n1_ := Aside0.mk (below_step (by repeat (first | (with_reducible first | exact HB.out | apply below_alloc | apply pw_below_drewN | apply below_drew1) | exact HB.out)) hb); clear HO189; clear HB; have HO189 := n0_; have HB := n1_; clear n0_ n1_; (try clear hb); (try clear hb2); (try clear hk); (try clear hi)) | ((with_reducible refine gate_callee (f := 24) rfl ?_); refine goesL_ (some 66) rfl rfl Try.func24 (by kernel_rfl) rfl #[.int .i64 t202] rfl (by (try simp only [List.map_toArray, List.map_cons, List.map_nil]); first | done | rfl | (simp only [List.length_drop, List.length_take]; rfl)) ?_; (with_reducible refine (spec_FpRoot.calls k t202 t205 t206 _ A15.out).mono ?_); rintro e w' ⟨rfl, ⟨nd, rfl⟩⟩; refine ⟨_, rfl, ?_⟩) | (go_at_call 25; (with_reducible refine (impl_FpAdd.calls t193 (wrap64 (1 + (Int.tmod (rd t187 0) 12106))) t208 _ A81.out).mono ?_); rintro e w' ⟨rfl, ⟨nd, rfl⟩⟩))
                      go_ret
                      exact ⟨by first | rfl | (simp [errW_none, errW_some] <;> rfl) | (simp [*, errW_none, errW_some] <;> rfl), by repeat (first | (with_reducible first | exact HB.out | apply below_alloc | apply pw_below_drewN | apply below_drew1) | exact HB.out)⟩
                  · rw [if_neg c121] at H
                    have c121b0 : (t204 == t206) = false := by simpa using c121
                    (try (have c121b1 : decide (t204 = t206) = false := by simpa using c121))
                    (try (have c121b2 : (t204 == t206) = false := by simpa using c121))
                    (try (have c121b3 : ¬ (t204 = t206) := by simpa using c121))
                    clear c121
                    exact absurd ((Option.some.inj H).trans HR.out) (by decide)
                · rw [if_neg c120] at H
                  have c120b0 : (t201 == (false == t198)) = false := by simpa using c120
                  (try (have c120b1 : decide (t201 = (false == t198)) = false := by simpa using c120))
                  (try (have c120b2 : (t201 == (false == t198)) = false := by simpa using c120))
                  (try (have c120b3 : ¬ (t201 = (false == t198)) := by simpa using c120))
                  clear c120
                  exact absurd ((Option.some.inj H).trans HR.out) (by decide)
            · rw [if_neg c82] at H
              have c82b0 : (t208 == 0) = false := beq_eq_false_iff_ne.mpr c82
              have c82b1 : (t208 != 0) = true := bne_iff_ne.mpr c82
              exact absurd ((Option.some.inj H).trans HR.out) (by decide)
        · replace c16 := Bool.eq_false_iff.mpr c16
          subst c16
          have H1 : (some false) = some r := by rw [if_neg (show ¬ (false = true) by decide)] at H; exact H
          clear H
          have H := H1
          clear H1
          exact absurd ((Option.some.inj H).trans HR.out) (by decide)
      · rw [if_neg c6] at H
        exact absurd H (by simp)
    · rw [if_neg c5] at H
      exact absurd H (by simp)

/-- THE ONE PURE STATEMENT of laws_FnRoots: yours. -/
def laws_FnRoots.Pure : Prop := ∀ (l0 : List Int), l0.length ≤ maxLen → l0.length * 1 ≤ 140737488351232 → (∀ x ∈ l0, (Lit.int .u8 x).wf = true) → ∃ k, laws_FnRoots.f k l0 = some true
theorem laws_FnRoots.walk (P : laws_FnRoots.Pure) (a0 : Option Addr) (len0 cap0 : Nat) (z0 : List Int) (w : World) (w0 : (a0 = none ∧ len0 = 0 ∧ cap0 = 0 ∧ z0 = []) ∨ ∃ x, a0 = some x ∧ len0 ≤ cap0 ∧ cap0 ≤ maxLen ∧ z0.length = cap0 ∧ (∀ i, i < z0.length → w.cell? (x.add i) = some (.int .u8 (z0.getD i 0))) ∧ ∀ n ∈ z0, (Lit.int .u8 n).wf = true) (y0 : len0 * 1 ≤ 140737488351232) :
    Calls Try.prog 6 #[.slice a0 len0 cap0] w fun e w' => e = .returned (.bool true) ∧ Below w.heap.size w w' := by
  obtain ⟨l0, rfl, hr0, hm0, hw0, hc0⟩ := ReadsInt.ofRowC w0
  obtain ⟨k, h⟩ := P l0 hm0 y0 hw0
  refine (laws_FnRoots.calls k _ _ l0 true w (Kd.C_of_reads (d := (0 : Int)) (h1 := fun _ => rfl) hr0) hc0 h rfl).mono ?_
  rintro e w' ⟨rfl, hd⟩
  exact ⟨rfl, hd⟩

end Go.Proofs.Ytfigfpfgeoadbaa.PFnRoots
