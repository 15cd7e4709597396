/- The Go functions of FnDigests as Lean functions, each with its walk: begun as a text of the print, turned where that fell. Conditions: none. -/
import Derived.Test.YtakejfhfkjnhlaaDoorQFnDigestsx0
import Derived.Test.YtakejfhfkjnhlaaDoorQFnDigestsx1
import Derived.Test.YtakejfhfkjnhlaaDoorQFnDigestsx2
import Derived.Test.YtakejfhfkjnhlaaDoorKecST
import Derived.Test.YtakejfhfkjnhlaaDoorRb
namespace Go.Proofs.YtakejfhfkjnhlaaDoor.PFnDigests
open Go.RowKit Go.Proofs.YtakejfhfkjnhlaaDoorW.PrintWords Go.Proofs.YtakejfhfkjnhlaaDoorW.PrintLast Go.Proofs.YtakejfhfkjnhlaaDoorW.PrintMore
attribute [local go_sem] max2_int min2_int max_two min_two max_three min_three max_four min_four   -- for this text's walks alone
set_option linter.unusedVariables false
set_option linter.unusedSimpArgs false

/-! ### laws_FnDigests: function 9 -/
set_option maxRecDepth 100000 in
mutual
def laws_FnDigests.l0 : Nat → ByteArray → ByteArray → ByteArray → ByteArray → Option (Bool)
  | 0, _, _, _, _ => none
  | k + 1, x3, x4, x5, x6 => if (x6.size : Int) < 200 then (if x6.size + 1 ≤ 9223372036854775807 then (laws_FnDigests.l0 k x3 x4 x5 (x6 ++ (⟨#[0]⟩ : ByteArray))) else (none)) else (laws_FnDigests.l1 k x3 x4 x5 x6 0)
def laws_FnDigests.l1 : Nat → ByteArray → ByteArray → ByteArray → ByteArray → Int → Option (Bool)
  | 0, _, _, _, _, _ => none
  | k + 1, x3, x4, x5, x6, x7 => if x7 < (x4.size : Int) then (if (x6.size : Int) ≤ 140737488355328 then (laws_FnDigests.l2 k x3 x4 x5 x7 (bytesOf x6) 0) else (none)) else (if (x5.size : Int) = 32 then (if 0 ≤ 32 then (if 32 ≤ (x6.size : Int) then (if x5.toList = (x6.extract 0 32).toList then (if ((x4.size : Int) % 136) = 0 then (if (x4.size : Int) > (x3.size : Int) then (if 0 ≤ (x3.size : Int) then (if (x3.size : Int) ≤ (x4.size : Int) then (if (x4.extract 0 ((x3.size : Int) : Int).toNat).toList = x3.toList then ((Go.Proofs.YtakejfhfkjnhlaaDoor.KW.spec_Digest.f x3).bind fun t191 => (if x5.toList = t191.toList then ((Go.Proofs.YtakejfhfkjnhlaaDoor.KW.impl_DigestPair.f x3 (⟨#[120]⟩ : ByteArray)).bind fun t192 => (if x3.size + 1 ≤ 9223372036854775807 then ((Go.Proofs.YtakejfhfkjnhlaaDoor.KW.impl_Digest.f (x3 ++ (⟨#[120]⟩ : ByteArray))).bind fun t193 => (if t192.toList = t193.toList then ((Go.Proofs.YtakejfhfkjnhlaaDoor.KW.impl_DigestHex.f x3).bind fun t194 => (some ((t194.size : Int) == 64))) else (some false))) else (none))) else (some false))) else (some false)) else (none)) else (none)) else (some false)) else (some false)) else (some false)) else (none)) else (none)) else (some false))
def laws_FnDigests.l2 : Nat → ByteArray → ByteArray → ByteArray → Int → List Int → Int → Option (Bool)
  | 0, _, _, _, _, _, _ => none
  | k + 1, x3, x4, x5, x7, x8, x9 => if x9 < 136 then (if 0 ≤ x9 then (if x9 < (x8.length : Int) then (if 0 ≤ (wrap64 (x7 + x9)) then (if (wrap64 (x7 + x9)) < (x4.size : Int) then (laws_FnDigests.l2 k x3 x4 x5 x7 (x8.set (x9 : Int).toNat (Go.bits .xor .u8 (rd x8 x9) (bt x4 (wrap64 (x7 + x9))))) (wrap64 (x9 + 1))) else (none)) else (none)) else (none)) else (none)) else ((Go.Proofs.YtakejfhfkjnhlaaDoor.KW.impl_KeccakF.f (strOfNums x8)).bind fun t190 => (laws_FnDigests.l1 k x3 x4 x5 t190 (wrap64 (x7 + 136))))
end
def laws_FnDigests.f (k : Nat) (l0 : List Int) : Option (Bool) := (laws_big.f l0).bind fun t181 => (if t181 = true then (some true) else ((spec_DrawTextOf.f k l0).bind fun t182 => ((Go.Proofs.YtakejfhfkjnhlaaDoor.KW.impl_KeccakPad.f t182).bind fun t183 => ((Go.Proofs.YtakejfhfkjnhlaaDoor.KW.impl_Digest.f t182).bind fun t184 => (laws_FnDigests.l0 k t182 t183 t184 (⟨#[]⟩ : ByteArray))))))
set_option maxRecDepth 100000 in
theorem laws_FnDigests.mono_l : ∀ k, (∀ y0 y1 y2 y3, LeO (laws_FnDigests.l0 k y0 y1 y2 y3) (laws_FnDigests.l0 (k + 1) y0 y1 y2 y3)) ∧ (∀ y0 y1 y2 y3 y4, LeO (laws_FnDigests.l1 k y0 y1 y2 y3 y4) (laws_FnDigests.l1 (k + 1) y0 y1 y2 y3 y4)) ∧ (∀ y0 y1 y2 y3 y4 y5, LeO (laws_FnDigests.l2 k y0 y1 y2 y3 y4 y5) (laws_FnDigests.l2 (k + 1) y0 y1 y2 y3 y4 y5))
  | 0 => ⟨fun _ _ _ _ r h => by simp [laws_FnDigests.l0] at h, fun _ _ _ _ _ r h => by simp [laws_FnDigests.l1] at h, fun _ _ _ _ _ _ r h => by simp [laws_FnDigests.l2] at h⟩
  | k + 1 => by
    obtain ⟨ih0, ih1, ih2⟩ := laws_FnDigests.mono_l k
    refine ⟨?_, ?_, ?_⟩
    · intro y0 y1 y2 y3
      unfold laws_FnDigests.l0
      repeat' first
      | (with_reducible exact ih0 _ _ _ _)
      | (with_reducible exact ih1 _ _ _ _ _)
      | (with_reducible exact ih2 _ _ _ _ _ _)
      | (with_reducible exact spec_DrawTextOf.mono _ _)
      | (with_reducible exact LeO.refl _)
      | (with_reducible exact LeO.none _)
      | (with_reducible refine LeO.ite ?_ ?_)
      | (with_reducible refine LeO.bind ?_ (fun _ => ?_))
      | exact ih0 _ _ _ _
      | exact ih1 _ _ _ _ _
      | exact ih2 _ _ _ _ _ _
      | exact spec_DrawTextOf.mono _ _
      | exact LeO.none _
      | refine LeO.ite ?_ ?_
      | refine LeO.bind ?_ (fun _ => ?_)
    · intro y0 y1 y2 y3 y4
      unfold laws_FnDigests.l1
      repeat' first
      | (with_reducible exact ih0 _ _ _ _)
      | (with_reducible exact ih1 _ _ _ _ _)
      | (with_reducible exact ih2 _ _ _ _ _ _)
      | (with_reducible exact spec_DrawTextOf.mono _ _)
      | (with_reducible exact LeO.refl _)
      | (with_reducible exact LeO.none _)
      | (with_reducible refine LeO.ite ?_ ?_)
      | (with_reducible refine LeO.bind ?_ (fun _ => ?_))
      | exact ih0 _ _ _ _
      | exact ih1 _ _ _ _ _
      | exact ih2 _ _ _ _ _ _
      | exact spec_DrawTextOf.mono _ _
      | exact LeO.none _
      | refine LeO.ite ?_ ?_
      | refine LeO.bind ?_ (fun _ => ?_)
    · intro y0 y1 y2 y3 y4 y5
      unfold laws_FnDigests.l2
      repeat' first
      | (with_reducible exact ih0 _ _ _ _)
      | (with_reducible exact ih1 _ _ _ _ _)
      | (with_reducible exact ih2 _ _ _ _ _ _)
      | (with_reducible exact spec_DrawTextOf.mono _ _)
      | (with_reducible exact LeO.refl _)
      | (with_reducible exact LeO.none _)
      | (with_reducible refine LeO.ite ?_ ?_)
      | (with_reducible refine LeO.bind ?_ (fun _ => ?_))
      | exact ih0 _ _ _ _
      | exact ih1 _ _ _ _ _
      | exact ih2 _ _ _ _ _ _
      | exact spec_DrawTextOf.mono _ _
      | exact LeO.none _
      | refine LeO.ite ?_ ?_
      | refine LeO.bind ?_ (fun _ => ?_)
theorem laws_FnDigests.mono : ∀ a0 k, LeO (laws_FnDigests.f k a0) (laws_FnDigests.f (k + 1) a0) := by
  intro a0 k
  obtain ⟨ih0, ih1, ih2⟩ := laws_FnDigests.mono_l k
  unfold laws_FnDigests.f
  repeat' first
      | (with_reducible exact ih0 _ _ _ _)
      | (with_reducible exact ih1 _ _ _ _ _)
      | (with_reducible exact ih2 _ _ _ _ _ _)
      | (with_reducible exact spec_DrawTextOf.mono _ _)
      | (with_reducible exact LeO.refl _)
      | (with_reducible exact LeO.none _)
      | (with_reducible refine LeO.ite ?_ ?_)
      | (with_reducible refine LeO.bind ?_ (fun _ => ?_))
      | exact ih0 _ _ _ _
      | exact ih1 _ _ _ _ _
      | exact ih2 _ _ _ _ _ _
      | exact spec_DrawTextOf.mono _ _
      | exact LeO.none _
      | refine LeO.ite ?_ ?_
      | refine LeO.bind ?_ (fun _ => ?_)
def laws_FnDigests.T16 : Bool × List (List Nat × List Nat) := (true, [([], []), ([], []), ([], []), ([], []), ([2, 3], [2, 3]), ([4], [4]), ([], []), ([], []), ([], []), ([7, 8], [7, 8]), ([6, 9], [6, 9]), ([5, 10], [5, 10]), ([0, 1, 0, 1, 2, 3, 4, 5, 6, 7, 8, 9, 10, 11], [0, 1]), ([12, 11, 0, 1, 2, 3, 4, 5, 6, 7, 8, 9, 10, 11], [11, 12])])
def laws_FnDigests.B16 : List Nat := [0, 0, 0, 0, 12, 28, 0, 0, 0, 384, 960, 2044, 4095, 8191]
theorem laws_FnDigests.tab16 : rtab .any (opsOf Tryd.f9 16) = laws_FnDigests.T16 := by kernel_rfl
theorem laws_FnDigests.bits16 : waitsOk laws_FnDigests.T16.2 laws_FnDigests.B16 = true := by kernel_rfl
set_option maxHeartbeats 8000000 in
set_option maxRecDepth 100000 in
theorem laws_FnDigests.calls (k : Nat) (A0 : Option Addr) (c0 : Nat) (l0 : List Int) (r : Bool) (w : World) (hr0 : Kd.C (Kd.int .u8) w A0 l0.length l0) (hc0 : l0.length ≤ c0) (h : laws_FnDigests.f k l0 = some r) (htab : Go.Proofs.YtakejfhfkjnhlaaDoor.KW.LaidW w) :
    Calls Tryd.prog 9 #[.slice A0 l0.length c0] w fun e w' => e = .returned (.bool r) ∧ Below w.heap.size w w' := by
  have HT := Aside0.mk htab
  clear htab
  have HR0 := Aside0.mk hr0
  have HC0 := Aside0.mk hc0
  clear hr0 hc0
  have HB := Aside0.mk (Below.refl w.heap.size w)
  have H : ((laws_big.f l0).bind fun t181 => (if t181 = true then (some true) else ((spec_DrawTextOf.f k l0).bind fun t182 => ((Go.Proofs.YtakejfhfkjnhlaaDoor.KW.impl_KeccakPad.f t182).bind fun t183 => ((Go.Proofs.YtakejfhfkjnhlaaDoor.KW.impl_Digest.f t182).bind fun t184 => (laws_FnDigests.l0 k t182 t183 t184 (⟨#[]⟩ : ByteArray))))))) = some r := h
  clear h
  replace H := Option.bind_eq_some_iff.mp H
  obtain ⟨t181, A20, H⟩ := H
  replace H : (if t181 = true then (some true) else ((spec_DrawTextOf.f k l0).bind fun t182 => ((Go.Proofs.YtakejfhfkjnhlaaDoor.KW.impl_KeccakPad.f t182).bind fun t183 => ((Go.Proofs.YtakejfhfkjnhlaaDoor.KW.impl_Digest.f t182).bind fun t184 => (laws_FnDigests.l0 k t182 t183 t184 (⟨#[]⟩ : ByteArray)))))) = some r := H
  have A2 := Aside0.mk A20
  clear A20
  by_cases c3 : t181 = true
  · subst c3
    have H1 : (some true) = some r := by rw [if_pos rfl] at H; exact H
    clear H
    have H := H1
    clear H1
    obtain rfl := Option.some.inj H
    go_enter Tryd.func9, Tryd.ntmps9
    go_wp2_with (first | ((with_reducible refine gate_callee (f := 16) rfl ?_); refine goesL_ (some 11) rfl rfl Tryd.func16 (by kernel_rfl) rfl #[.slice A0 l0.length c0] rfl (by (try simp only [List.map_toArray, List.map_cons, List.map_nil]); first | done | rfl | (simp only [List.length_drop, List.length_take]; rfl)) ?_; (with_reducible refine (laws_big.calls _ _ l0 true _ ?side1 ?side2 A2.out).mono ?_); (case side1 => repeat (first | exact HR0.out | (with_reducible refine Kd.C_alloc ?_ _) | (with_reducible refine Kd.C_drewN ?_ _) | (with_reducible refine Kd.C_drew ?_))); (case side2 => exact HC0.out); rintro e w' ⟨rfl, ⟨nd, rfl⟩⟩; refine ⟨_, rfl, ?_⟩))
    go_ret
    exact ⟨by first | rfl | (simp [errW_none, errW_some] <;> rfl) | (simp [errW_none, errW_some]; generalize ByteArray.toList _ = l_; cases l_ <;> rfl) | (simp [*, errW_none, errW_some] <;> rfl), by repeat (first | (with_reducible first | exact HB.out | apply below_alloc | apply pw_below_drewN | apply below_drew1) | exact HB.out)⟩
  · replace c3 := Bool.eq_false_iff.mpr c3
    subst c3
    have H1 : ((spec_DrawTextOf.f k l0).bind fun t182 => ((Go.Proofs.YtakejfhfkjnhlaaDoor.KW.impl_KeccakPad.f t182).bind fun t183 => ((Go.Proofs.YtakejfhfkjnhlaaDoor.KW.impl_Digest.f t182).bind fun t184 => (laws_FnDigests.l0 k t182 t183 t184 (⟨#[]⟩ : ByteArray))))) = some r := by rw [if_neg (show ¬ (false = true) by decide)] at H; exact H
    clear H
    have H := H1
    clear H1
    replace H := Option.bind_eq_some_iff.mp H
    obtain ⟨t182, A40, H⟩ := H
    replace H : ((Go.Proofs.YtakejfhfkjnhlaaDoor.KW.impl_KeccakPad.f t182).bind fun t183 => ((Go.Proofs.YtakejfhfkjnhlaaDoor.KW.impl_Digest.f t182).bind fun t184 => (laws_FnDigests.l0 k t182 t183 t184 (⟨#[]⟩ : ByteArray)))) = some r := H
    have A4 := Aside0.mk A40
    clear A40
    replace H := Option.bind_eq_some_iff.mp H
    obtain ⟨t183, A50, H⟩ := H
    replace H : ((Go.Proofs.YtakejfhfkjnhlaaDoor.KW.impl_Digest.f t182).bind fun t184 => (laws_FnDigests.l0 k t182 t183 t184 (⟨#[]⟩ : ByteArray))) = some r := H
    have A5 := Aside0.mk A50
    clear A50
    replace H := Option.bind_eq_some_iff.mp H
    obtain ⟨t184, A60, H⟩ := H
    replace H : (laws_FnDigests.l0 k t182 t183 t184 (⟨#[]⟩ : ByteArray)) = some r := H
    have A6 := Aside0.mk A60
    clear A60
    have H' := Aside0.mk H
    clear H
    go_enter Tryd.func9, Tryd.ntmps9
    go_wp2_with (first | ((with_reducible refine gate_callee (f := 16) rfl ?_); refine goesL_ (some 11) rfl rfl Tryd.func16 (by kernel_rfl) rfl #[.slice A0 l0.length c0] rfl (by (try simp only [List.map_toArray, List.map_cons, List.map_nil]); first | done | rfl | (simp only [List.length_drop, List.length_take]; rfl)) ?_; (with_reducible refine (laws_big.calls _ _ l0 false _ ?side1 ?side2 A2.out).mono ?_); (case side1 => repeat (first | exact HR0.out | (with_reducible refine Kd.C_alloc ?_ _) | (with_reducible refine Kd.C_drewN ?_ _) | (with_reducible refine Kd.C_drew ?_))); (case side2 => exact HC0.out); rintro e w' ⟨rfl, ⟨nd, rfl⟩⟩; refine ⟨_, rfl, ?_⟩) | ((with_reducible refine gate_callee (f := 26) rfl ?_); refine goesL_ (some 13) rfl rfl Tryd.func26 (by kernel_rfl) rfl #[.slice A0 l0.length c0] rfl (by (try simp only [List.map_toArray, List.map_cons, List.map_nil]); first | done | rfl | (simp only [List.length_drop, List.length_take]; rfl)) ?_; (with_reducible refine (spec_DrawTextOf.calls k _ _ l0 t182 _ ?side1 ?side2 A4.out).mono ?_); (case side1 => repeat (first | exact HR0.out | (with_reducible refine Kd.C_alloc ?_ _) | (with_reducible refine Kd.C_drewN ?_ _) | (with_reducible refine Kd.C_drew ?_))); (case side2 => exact HC0.out); rintro e w7 ⟨rfl, hb⟩; refine ⟨_, rfl, ?_⟩; have n0_ := Aside0.mk (below_step (by repeat (first | (with_reducible first | exact HB.out | apply below_alloc | apply pw_below_drewN | apply below_drew1) | exact HB.out)) hb); clear HB; have HB := n0_; clear n0_; (try clear hb); (try clear hb2); (try clear hk); (try clear hi)) | ((with_reducible refine gate_callee (f := 27) rfl ?_); refine goesL_ (some 15) rfl rfl Tryd.func27 (by kernel_rfl) rfl #[.string t182] rfl (by (try simp only [List.map_toArray, List.map_cons, List.map_nil]); first | done | rfl | (simp only [List.length_drop, List.length_take]; rfl)) ?_; (with_reducible refine (Go.Proofs.YtakejfhfkjnhlaaDoor.KW.impl_KeccakPad.calls t182 t183 _ A5.out).mono ?_); rintro e w8 ⟨rfl, hb⟩; refine ⟨_, rfl, ?_⟩; have n0_ := Aside0.mk (below_step (by repeat (first | (with_reducible first | exact HB.out | apply below_alloc | apply pw_below_drewN | apply below_drew1) | exact HB.out)) hb); clear HB; have HB := n0_; clear n0_; (try clear hb); (try clear hb2); (try clear hk); (try clear hi)) | ((with_reducible refine gate_callee (f := 23) rfl ?_); refine goesL_ (some 17) rfl rfl Tryd.func23 (by kernel_rfl) rfl #[.string t182] rfl (by (try simp only [List.map_toArray, List.map_cons, List.map_nil]); first | done | rfl | (simp only [List.length_drop, List.length_take]; rfl)) ?_; (with_reducible refine (Go.Proofs.YtakejfhfkjnhlaaDoor.KW.impl_Digest.calls t182 t184 _ A6.out (HT.out.below (by repeat (first | (with_reducible first | exact HB.out | apply below_alloc | apply pw_below_drewN | apply below_drew1) | exact HB.out)))).mono ?_); rintro e w9 ⟨rfl, hb⟩; refine ⟨_, rfl, ?_⟩; have n0_ := Aside0.mk (below_step (by repeat (first | (with_reducible first | exact HB.out | apply below_alloc | apply pw_below_drewN | apply below_drew1) | exact HB.out)) hb); clear HB; have HB := n0_; clear n0_; (try clear hb); (try clear hb2); (try clear hk); (try clear hi)))
    go_loopg [6] k (fun kq v6 w' => ∃ (x6_1 : ByteArray), v6 = .string x6_1 ∧ Aside0 (laws_FnDigests.l0 kq t182 t183 t184 x6_1 = some r) ∧ Aside0 (kq ≤ k) ∧ Aside0 (Below w.heap.size w w'))
    case atStart => exact ⟨((⟨#[]⟩ : ByteArray)), (by first | rfl | (simp; done) | (simp [*]; done)), H', ⟨Nat.le_refl _⟩, ⟨by repeat (first | (with_reducible first | exact HB.out | apply below_alloc | apply pw_below_drewN | apply below_drew1) | exact HB.out)⟩⟩
    case round =>
      clear H'
      try clear c1
      try clear c2
      try clear p2
      try clear c3
      try clear c9
      obtain ⟨x6_1, rfl, HA, HK1, HB⟩ := hrel
      cases gk with
      | zero => exact absurd HA.out (by simp [laws_FnDigests.l0])
      | succ k1 =>
        have H := HA.out
        clear HA
        simp only [laws_FnDigests.l0] at H
        by_cases c10 : (x6_1.size : Int) < 200
        · rw [if_pos c10] at H
          have c10b0 : decide ((x6_1.size : Int) < 200) = true := decide_eq_true c10
          have c10b1 : decide (x6_1.size < 200) = true := decide_eq_true (by omega)
          clear c10
          by_cases c11 : x6_1.size + 1 ≤ 9223372036854775807
          · rw [if_pos c11] at H
            have c11b0 := eq_true c11
            have c11b1 : decide (x6_1.size + 1 ≤ 9223372036854775807) = true := decide_eq_true c11
            try have c11b2 : (9223372036854775807 < x6_1.size + 1) = False := eq_false (Nat.not_lt.2 c11)
            have H' := Aside0.mk H
            clear H
            go_wp2
            go_roundg k1
            case measure => have := HK1.out; omega
            case rel => exact ⟨(x6_1 ++ (⟨#[0]⟩ : ByteArray)), (by first | rfl | (simp; done) | (simp [*]; done)), H', ⟨by have := HK1.out; omega⟩, ⟨by repeat (first | (with_reducible first | exact HB.out | apply below_alloc | apply pw_below_drewN | apply below_drew1) | exact HB.out)⟩⟩
          · rw [if_neg c11] at H
            exact absurd H (by simp)
        · rw [if_neg c10] at H
          have c10b0 : decide ((x6_1.size : Int) < 200) = false := decide_eq_false c10
          have c10b1 : decide (x6_1.size < 200) = false := decide_eq_false (by omega)
          clear c10
          have H' := Aside0.mk H
          clear H
          go_wp2
          go_loopg [6, 7] k1 (fun kq v6 v7 w' => ∃ (x6_2 : ByteArray) (x7_2 : Int), v6 = .string x6_2 ∧ v7 = .int .i64 x7_2 ∧ Aside0 (laws_FnDigests.l1 kq t182 t183 t184 x6_2 x7_2 = some r) ∧ Aside0 (kq ≤ k1) ∧ Aside0 (Below w.heap.size w w'))
          case atStart => exact ⟨(x6_1), (0), (by first | rfl | (simp; done) | (simp [*]; done)), (by first | rfl | (simp; done) | (simp [*]; done)), H', ⟨Nat.le_refl _⟩, ⟨by repeat (first | (with_reducible first | exact HB.out | apply below_alloc | apply pw_below_drewN | apply below_drew1) | exact HB.out)⟩⟩
          case round =>
            clear H'
            try clear c1
            try clear c2
            try clear p2
            try clear c3
            try clear c9
            try clear c10
            try clear c10b0
            try clear c10b1
            try clear c11
            try clear c11b0
            try clear c11b1
            try clear c11b2
            try clear p2
            obtain ⟨x6_2, x7_2, rfl, rfl, HA, HK2, HB⟩ := hrel
            cases gk with
            | zero => exact absurd HA.out (by simp [laws_FnDigests.l1])
            | succ k2 =>
              have H := HA.out
              clear HA
              simp only [laws_FnDigests.l1] at H
              by_cases c12 : x7_2 < (t183.size : Int)
              · rw [if_pos c12] at H
                have c12b0 : decide (x7_2 < (t183.size : Int)) = true := decide_eq_true c12
                clear c12
                by_cases c13 : (x6_2.size : Int) ≤ 140737488355328
                · rw [if_pos c13] at H
                  have c13b0 := eq_true c13
                  have c13b1 : decide ((x6_2.size : Int) ≤ 140737488355328) = true := decide_eq_true c13
                  clear c13
                  obtain ⟨y185, hy185⟩ : ∃ y_ : List Int, y_ = (bytesOf x6_2) := ⟨_, rfl⟩
                  replace H : (laws_FnDigests.l2 k2 t182 t183 t184 x7_2 y185 0) = some r := by first | (rw [hy185]; with_reducible exact H) | (have H2_ := (Option.bind_some _ _).symm.trans H; rw [hy185]; with_reducible exact H2_) | (have H2_ := (Option.bind_some _ _).symm.trans H; with_reducible exact H2_) | with_reducible exact H | (rw [hy185]; exact H) | exact H
                  have Ny185 := Aside0.mk hy185
                  clear hy185
                  have H' := Aside0.mk H
                  clear H
                  go_wp2_with (first | ((with_reducible refine gate_dst (N := 30) rfl ?_); (try (refine gate_guard (by rfl) ?_; dsimp only)); refine Go.Proofs.YtakejfhfkjnhlaaDoor.M.R_bytes0 _ 5 rfl (N := 30) rfl 9 26 _ rfl x6_2 rfl Tryd.underlying9 Tryd.underlying26 Tryd.underlying5 (of_decide_eq_true (by first | (with_reducible assumption) | assumption)) (Below.refl _ _) (Nat.le_refl _) ?_; intro v186 w14 ho15 hb hg_; clear hg_; (first | rw [← Ny185.out] at ho15 | (simp only [Int.reduceToNat] at ho15; rw [← Ny185.out] at ho15)); have n0_ := Aside0.mk (Go.Proofs.YtakejfhfkjnhlaaDoor.M.Rb.R_lower ho15 (below_size (by repeat (first | (with_reducible first | exact HB.out | apply below_alloc | apply pw_below_drewN | apply below_drew1) | exact HB.out)))); have n1_ := Aside0.mk (below_step (by repeat (first | (with_reducible first | exact HB.out | apply below_alloc | apply pw_below_drewN | apply below_drew1) | exact HB.out)) hb); clear HB; have HO187 := n0_; have HB := n1_; clear n0_ n1_; clear hb ho15))
                  go_loopg [9] k2 (fun kq v9 w' => ∃ (x8_3 : List Int) (x9_3 : Int), v9 = .int .i64 x9_3 ∧ Aside0 (laws_FnDigests.l2 kq t182 t183 t184 x7_2 x8_3 x9_3 = some r) ∧ Aside0 (kq ≤ k2) ∧ Aside0 (Go.Proofs.YtakejfhfkjnhlaaDoor.M.Rb.R (Kd.int .u8) 5 w' w.heap.size (fun _ => True) v186 x8_3) ∧ Aside0 (Below w.heap.size w w'))
                  case atStart => exact ⟨(y185), (0), (by first | rfl | (simp; done) | (simp [*]; done)), H', ⟨Nat.le_refl _⟩, ⟨by (with_reducible repeat (first | apply Go.Proofs.YtakejfhfkjnhlaaDoor.M.Rb.R_alloc | apply Go.Proofs.YtakejfhfkjnhlaaDoor.M.Rb.R_drewN | apply Go.Proofs.YtakejfhfkjnhlaaDoor.M.Rb.R_drew)); exact HO187.out⟩, ⟨by repeat (first | (with_reducible first | exact HB.out | apply below_alloc | apply pw_below_drewN | apply below_drew1) | exact HB.out)⟩⟩
                  case round =>
                    clear H'
                    try clear c1
                    try clear c2
                    try clear p2
                    try clear c3
                    try clear c9
                    try clear c10
                    try clear c10b0
                    try clear c10b1
                    try clear c11
                    try clear c11b0
                    try clear c11b1
                    try clear c11b2
                    try clear c12
                    try clear c12b0
                    try clear c13
                    try clear c13b0
                    try clear c13b1
                    try clear p2
                    obtain ⟨x8_3, x9_3, rfl, HA, HK3, HO_8, HB⟩ := hrel
                    cases gk with
                    | zero => exact absurd HA.out (by simp [laws_FnDigests.l2])
                    | succ k3 =>
                      have H := HA.out
                      clear HA
                      simp only [laws_FnDigests.l2] at H
                      by_cases c16 : x9_3 < 136
                      · rw [if_pos c16] at H
                        have c16b0 : decide (x9_3 < 136) = true := decide_eq_true c16
                        clear c16
                        by_cases c17 : 0 ≤ x9_3
                        · rw [if_pos c17] at H
                          have c17b0 : decide (0 ≤ x9_3) = true := decide_eq_true c17
                          clear c17
                          by_cases c18 : x9_3 < (x8_3.length : Int)
                          · rw [if_pos c18] at H
                            have c18b0 : decide (x9_3 < (x8_3.length : Int)) = true := decide_eq_true c18
                            clear c18
                            obtain ⟨ji19, hji19⟩ : ∃ j_ : Int, (wrap64 (x7_2 + x9_3)) = j_ := ⟨_, rfl⟩
                            replace H : (if 0 ≤ (ji19) then (if (ji19) < (t183.size : Int) then (laws_FnDigests.l2 k3 t182 t183 t184 x7_2 (x8_3.set (x9_3 : Int).toNat (Go.bits .xor .u8 (rd x8_3 x9_3) (bt t183 (ji19)))) (wrap64 (x9_3 + 1))) else (none)) else (none)) = some r := by first | (rw [hji19] at H; exact H) | (simp only [hji19] at H ⊢; exact H)
                            have hji19w : (IntKind.i64.wrap (x7_2 + x9_3)) = ji19 := (i64_w _).trans hji19
                            by_cases c20 : 0 ≤ (ji19)
                            · rw [if_pos c20] at H
                              have c20b0 : decide (0 ≤ (ji19)) = true := decide_eq_true c20
                              clear c20
                              by_cases c21 : (ji19) < (t183.size : Int)
                              · rw [if_pos c21] at H
                                have c21b0 : decide ((ji19) < (t183.size : Int)) = true := decide_eq_true c21
                                clear c21
                                obtain ⟨y189, hy189⟩ : ∃ y_ : List Int, y_ = (x8_3.set (x9_3 : Int).toNat (Go.bits .xor .u8 (rd x8_3 x9_3) (bt t183 (ji19)))) := ⟨_, rfl⟩
                                replace H : (laws_FnDigests.l2 k3 t182 t183 t184 x7_2 y189 (wrap64 (x9_3 + 1))) = some r := by first | (rw [hy189]; with_reducible exact H) | (have H2_ := (Option.bind_some _ _).symm.trans H; rw [hy189]; with_reducible exact H2_) | (have H2_ := (Option.bind_some _ _).symm.trans H; with_reducible exact H2_) | with_reducible exact H | (rw [hy189]; exact H) | exact H
                                have Ny189 := Aside0.mk hy189
                                clear hy189
                                have H' := Aside0.mk H
                                clear H
                                try go_wp2
                                have n0_ := Aside0.mk (Go.Proofs.YtakejfhfkjnhlaaDoor.M.Rb.R_drew HO_8.out)
                                have n1_ := Aside0.mk (below_drew1 HB.out)
                                clear HO_8
                                clear HB
                                have HO_8 := n0_
                                have HB := n1_
                                clear n0_ n1_
                                obtain ⟨Ao25, co25, eo25⟩ := Go.Proofs.YtakejfhfkjnhlaaDoor.M.Rb.R_slice HO_8.out
                                (first | subst eo25 | (injection eo25 with f1_ f2_ f3_; have f4_ := f1_.symm; have f5_ := f3_.symm; clear f1_ f2_ f3_; subst f4_; subst f5_))
                                have p188 : 0 ≤ (x9_3 : Int) := of_decide_eq_true (by first | (with_reducible assumption) | assumption)
                                have q188 : x9_3 < (x8_3.length : Int) := of_decide_eq_true (by first | (with_reducible assumption) | assumption)
                                obtain ⟨ad188, e188, hx188_0⟩ := Kd.at_int (Go.Proofs.YtakejfhfkjnhlaaDoor.M.Rb.R_reads' HO_8.out).2.2 x9_3 p188 q188
                                cases e188
                                replace p188 := eq_true p188
                                replace q188 := eq_true q188
                                have p22 : 0 ≤ ((ji19) : Int) := of_decide_eq_true (by first | (with_reducible assumption) | assumption)
                                have q22 : (ji19) < (t183.size : Int) := of_decide_eq_true (by first | (with_reducible assumption) | assumption)
                                have hx22 := bt_at t183 (ji19)
                                replace p22 := eq_true p22
                                replace q22 := eq_true q22
                                have p23 : 0 ≤ (x9_3 : Int) := of_decide_eq_true (by first | (with_reducible assumption) | assumption)
                                have q23 : (x9_3 : Int) < ((x8_3.length : Int) : Int) := of_decide_eq_true (by first | (with_reducible assumption) | assumption)
                                obtain ⟨go23, co23, eo23, gb23, gl23, cl23, HG23⟩ := Go.Proofs.YtakejfhfkjnhlaaDoor.M.Rb.R_form HO_8.out (by omega)
                                (first | cases eo23 | (injection eo23 with ea_ en_ ec_; (first | subst ea_ | (injection ea_ with ea_; subst ea_)); subst ec_; clear en_))
                                have GB23 := Aside0.mk gb23
                                have GG23 := Aside0.mk HG23
                                clear gb23 gl23 HG23
                                (first | simp only [add_plain] at hx188_0 | skip)
                                obtain ⟨hx23_0, hf23_0⟩ := Go.Proofs.YtakejfhfkjnhlaaDoor.M.Rb.R_celln 0 HO_8.out (x9_3 : Int) p23 q23
                                replace p23 := eq_true p23
                                replace q23 := eq_true q23
                                have HP26 := Go.Proofs.YtakejfhfkjnhlaaDoor.M.Rb.R_putn HO_8.out (x9_3 : Int) (Go.bits .xor .u8 (rd x8_3 x9_3) (bt t183 (ji19)))
                                rw [← Ny189.out] at HP26
                                have HQ26 := Aside0.mk HP26
                                clear HP26
                                refine start_ (n := 14) (S := fun w' => w'.cell? ⟨go23, (x9_3).toNat, none⟩ = some (.int .u8 (rd x8_3 x9_3))) (ds := [13]) #[false, false, false, false, false, false, false, false, false, false, false, false, false, false] (by kernel_rfl) rfl rfl (hx188_0) (fun hHeld => ?_); refine with_tabW laws_FnDigests.tab16 laws_FnDigests.bits16 (fun HT_ HW_ => ?_)
                                generalize wr.drew = w24 at HO_8 HB GG23 HQ26 hf23_0 hx188_0 hx23_0 hHeld ⊢
                                refine pure_ (i := 0) (N := some 35) (v := ?_) (a' := ?_) #[true, false, false, false, false, false, false, false, false, false, false, false, false, false] rfl rfl (any_of HT_.out (by kernel_rfl)) (fun _ _ _ h => h) (Or.inl ⟨by rfl, ?_⟩) ?_ ?_
                                rotate_left
                                · intro w'
                                  go_simp
                                  with_reducible rfl
                                rotate_left
                                · simp only [Act.put, List.setIfInBounds_toArray, List.set_cons_zero, List.set_cons_succ, i64_w, i32_w]
                                  rfl
                                refine pure_ (i := 1) (N := some 36) (v := ?_) (a' := ?_) #[true, true, false, false, false, false, false, false, false, false, false, false, false, false] rfl rfl (any_of HT_.out (by kernel_rfl)) (fun _ _ _ h => h) (Or.inl ⟨by rfl, ?_⟩) ?_ ?_
                                rotate_left
                                · intro w'
                                  go_simp
                                  with_reducible rfl
                                rotate_left
                                · simp only [Act.put, List.setIfInBounds_toArray, List.set_cons_zero, List.set_cons_succ, i64_w, i32_w]
                                  rfl
                                refine pure_ (i := 2) (N := some 37) (v := ?_) (a' := ?_) #[true, true, true, false, false, false, false, false, false, false, false, false, false, false] rfl rfl (any_of HT_.out (by kernel_rfl)) (fun _ _ _ h => h) (Or.inl ⟨by rfl, ?_⟩) ?_ ?_
                                rotate_left
                                · intro w'
                                  go_simp
                                  with_reducible rfl
                                rotate_left
                                · simp only [Act.put, List.setIfInBounds_toArray, List.set_cons_zero, List.set_cons_succ, i64_w, i32_w]
                                  rfl
                                refine pure_ (i := 3) (N := some 38) (v := ?_) (a' := ?_) #[true, true, true, true, false, false, false, false, false, false, false, false, false, false] rfl rfl (any_of HT_.out (by kernel_rfl)) (fun _ _ _ h => h) (Or.inl ⟨by rfl, ?_⟩) ?_ ?_
                                rotate_left
                                · intro w'
                                  go_simp
                                  with_reducible rfl
                                rotate_left
                                · simp only [Act.put, List.setIfInBounds_toArray, List.set_cons_zero, List.set_cons_succ, i64_w, i32_w]
                                  rfl
                                refine pure_ (i := 4) (N := some 39) (v := ?_) (a' := ?_) #[true, true, true, true, true, false, false, false, false, false, false, false, false, false] rfl rfl (any_of HT_.out (by kernel_rfl)) (fun _ _ _ h => h) (Or.inl ⟨by rfl, ?_⟩) ?_ ?_
                                rotate_left
                                · intro w'
                                  go_simp
                                  with_reducible rfl
                                rotate_left
                                · simp only [Act.put, List.setIfInBounds_toArray, List.set_cons_zero, List.set_cons_succ, i64_w, i32_w]
                                  rfl
                                refine pure_ (i := 6) (N := some 41) (v := ?_) (a' := ?_) #[true, true, true, true, true, false, true, false, false, false, false, false, false, false] rfl rfl (any_of HT_.out (by kernel_rfl)) (fun _ _ _ h => h) (Or.inl ⟨by rfl, ?_⟩) ?_ ?_
                                rotate_left
                                · intro w'
                                  go_simp
                                  with_reducible rfl
                                rotate_left
                                · simp only [Act.put, List.setIfInBounds_toArray, List.set_cons_zero, List.set_cons_succ, i64_w, i32_w]
                                  rfl
                                refine pure_ (i := 7) (N := some 42) (v := ?_) (a' := ?_) #[true, true, true, true, true, false, true, true, false, false, false, false, false, false] rfl rfl (any_of HT_.out (by kernel_rfl)) (fun _ _ _ h => h) (Or.inl ⟨by rfl, ?_⟩) ?_ ?_
                                rotate_left
                                · intro w'
                                  go_simp
                                  with_reducible rfl
                                rotate_left
                                · simp only [Act.put, List.setIfInBounds_toArray, List.set_cons_zero, List.set_cons_succ, i64_w, i32_w]
                                  rfl
                                refine pure_ (i := 8) (N := some 43) (v := ?_) (a' := ?_) #[true, true, true, true, true, false, true, true, true, false, false, false, false, false] rfl rfl (any_of HT_.out (by kernel_rfl)) (fun _ _ _ h => h) (Or.inl ⟨by rfl, ?_⟩) ?_ ?_
                                rotate_left
                                · intro w'
                                  go_simp
                                  with_reducible rfl
                                rotate_left
                                · simp only [Act.put, List.setIfInBounds_toArray, List.set_cons_zero, List.set_cons_succ, i64_w, i32_w]
                                  rfl
                                refine pure_ (i := 9) (N := some 44) (v := ?_) (a' := ?_) #[true, true, true, true, true, false, true, true, true, true, false, false, false, false] rfl rfl (any_of HT_.out (by kernel_rfl)) (fun _ _ _ h => h) (Or.inl ⟨by rfl, ?_⟩) ?_ ?_
                                rotate_left
                                · intro w'
                                  go_simp
                                  with_reducible rfl
                                rotate_left
                                · simp only [Act.put, List.setIfInBounds_toArray, List.set_cons_zero, List.set_cons_succ, i64_w, i32_w]
                                  rfl
                                refine take_ (i := 5) (N := some 40) (v := ?_) (a' := ?_) #[true, true, true, true, true, true, true, true, true, true, false, false, false, false] rfl rfl (take_ofW HT_.out HW_.out (by kernel_rfl)) (fun _ _ _ h => h) (Or.inl ⟨by rfl, ?_⟩) hHeld ?_ ?_
                                rotate_left
                                · intro w' s0
                                  go_simp
                                  with_reducible rfl
                                rotate_left
                                · simp only [Act.put, List.setIfInBounds_toArray, List.set_cons_zero, List.set_cons_succ, i64_w, i32_w]
                                  rfl
                                refine take_ (i := 10) (N := some 45) (v := ?_) (a' := ?_) #[true, true, true, true, true, true, true, true, true, true, true, false, false, false] rfl rfl (take_ofW HT_.out HW_.out (by kernel_rfl)) (fun _ _ _ h => h) (Or.inl ⟨by rfl, ?_⟩) hHeld ?_ ?_
                                rotate_left
                                · intro w' s0
                                  go_simp
                                  with_reducible rfl
                                rotate_left
                                · simp only [Act.put, List.setIfInBounds_toArray, List.set_cons_zero, List.set_cons_succ, i64_w, i32_w]
                                  rfl
                                refine pure_ (i := 11) (N := some 46) (v := ?_) (a' := ?_) #[true, true, true, true, true, true, true, true, true, true, true, true, false, false] rfl rfl (any_of HT_.out (by kernel_rfl)) (fun _ _ _ h => h) (Or.inl ⟨by rfl, ?_⟩) ?_ ?_
                                rotate_left
                                · intro w'
                                  go_simp
                                  with_reducible rfl
                                rotate_left
                                · simp only [Act.put, List.setIfInBounds_toArray, List.set_cons_zero, List.set_cons_succ, i64_w, i32_w]
                                  rfl
                                refine pure_ (i := 12) (N := some 47) (v := ?_) (a' := ?_) #[true, true, true, true, true, true, true, true, true, true, true, true, true, false] rfl rfl (any_of HT_.out (by kernel_rfl)) (fun _ _ _ h => h) (Or.inl ⟨by rfl, ?_⟩) ?_ ?_
                                rotate_left
                                · intro w'
                                  go_simp
                                  with_reducible rfl
                                rotate_left
                                · simp only [Act.put, List.setIfInBounds_toArray, List.set_cons_zero, List.set_cons_succ, i64_w, i32_w]
                                  rfl
                                refine last_ (i := 13) (N := none) #[true, true, true, true, true, true, true, true, true, true, true, true, true, true] rfl rfl (one_of HT_.out (by kernel_rfl)) (by decide) (fun K hK => ?_)
                                refine skip_ (w1 := ?_) (by rfl) rfl ?_ ?_
                                rotate_left
                                · go_simp
                                  rfl
                                refine hK.out _ _ ?_
                                clear hK K
                                refine done_ (done_of HT_.out (by kernel_rfl)) ?_
                                try go_wp2
                                go_roundg k3
                                case measure => have := HK1.out; have := HK2.out; have := HK3.out; omega
                                case rel => exact ⟨(y189), (wrap64 (x9_3 + 1)), (by first | rfl | (simp; done) | (simp [*]; done)), H', ⟨by have := HK1.out; have := HK2.out; have := HK3.out; omega⟩, ⟨by (with_reducible repeat (first | apply Go.Proofs.YtakejfhfkjnhlaaDoor.M.Rb.R_alloc | apply Go.Proofs.YtakejfhfkjnhlaaDoor.M.Rb.R_drewN | apply Go.Proofs.YtakejfhfkjnhlaaDoor.M.Rb.R_drew)); exact HQ26.out⟩, ⟨by repeat (first | (with_reducible first | exact HB.out | apply below_alloc | apply pw_below_drewN | apply below_drew1 | refine below_set ?_ GB23.out) | exact HB.out)⟩⟩
                              · rw [if_neg c21] at H
                                exact absurd H (by simp)
                            · rw [if_neg c20] at H
                              exact absurd H (by simp)
                          · rw [if_neg c18] at H
                            exact absurd H (by simp)
                        · rw [if_neg c17] at H
                          exact absurd H (by simp)
                      · rw [if_neg c16] at H
                        have c16b0 : decide (x9_3 < 136) = false := decide_eq_false c16
                        clear c16
                        replace H := Option.bind_eq_some_iff.mp H
                        obtain ⟨t190, A270, H⟩ := H
                        replace H : (laws_FnDigests.l1 k3 t182 t183 t184 t190 (wrap64 (x7_2 + 136))) = some r := H
                        have A27 := Aside0.mk A270
                        clear A270
                        have H' := Aside0.mk H
                        clear H
                        have hcv28 := Go.Proofs.YtakejfhfkjnhlaaDoor.M.Rb.own_string (P := Tryd.prog) Tryd.underlying26 Tryd.underlying5 Tryd.underlying9 HO_8.out
                        go_wp2_with (first | ((with_reducible refine gate_callee (f := 15) rfl ?_); refine goesL_ (some 50) rfl rfl Tryd.func15 (by kernel_rfl) rfl #[.string (strOfNums x8_3)] rfl (by (try simp only [List.map_toArray, List.map_cons, List.map_nil]); first | done | rfl | (simp only [List.length_drop, List.length_take]; rfl)) ?_; (with_reducible refine (Go.Proofs.YtakejfhfkjnhlaaDoor.KW.impl_KeccakF.calls (strOfNums x8_3) t190 _ A27.out (HT.out.below (by repeat (first | (with_reducible first | exact HB.out | apply below_alloc | apply pw_below_drewN | apply below_drew1) | exact HB.out)))).mono ?_); rintro e w29 ⟨rfl, hb⟩; refine ⟨_, rfl, ?_⟩; have n0_ := Aside0.mk (Go.Proofs.YtakejfhfkjnhlaaDoor.M.Rb.R_below (by (with_reducible repeat (first | apply Go.Proofs.YtakejfhfkjnhlaaDoor.M.Rb.R_alloc | apply Go.Proofs.YtakejfhfkjnhlaaDoor.M.Rb.R_drewN | apply Go.Proofs.YtakejfhfkjnhlaaDoor.M.Rb.R_drew)); exact HO_8.out) hb); have n1_ := Aside0.mk (below_step (by repeat (first | (with_reducible first | exact HB.out | apply below_alloc | apply pw_below_drewN | apply below_drew1) | exact HB.out)) hb); clear HO_8; clear HB; have HO_8 := n0_; have HB := n1_; clear n0_ n1_; (try clear hb); (try clear hb2); (try clear hk); (try clear hi)))
                        go_roundg k3
                        case measure => have := HK1.out; have := HK2.out; have := HK3.out; omega
                        case rel => exact ⟨(t190), (wrap64 (x7_2 + 136)), (by first | rfl | (simp; done) | (simp [*]; done)), (by first | rfl | (simp; done) | (simp [*]; done)), H', ⟨by have := HK1.out; have := HK2.out; have := HK3.out; omega⟩, ⟨by repeat (first | (with_reducible first | exact HB.out | apply below_alloc | apply pw_below_drewN | apply below_drew1) | exact HB.out)⟩⟩
                · rw [if_neg c13] at H
                  exact absurd H (by simp)
              · rw [if_neg c12] at H
                have c12b0 : decide (x7_2 < (t183.size : Int)) = false := decide_eq_false c12
                clear c12
                by_cases c30 : (t184.size : Int) = 32
                · rw [if_pos c30] at H
                  have c30b0 : ((t184.size : Int) == 32) = true := beq_iff_eq.mpr c30
                  have c30b1 : ((t184.size : Int) != 32) = false := bne_eq_false_iff_eq.mpr c30
                  clear c30
                  by_cases c31 : 0 ≤ 32
                  · rw [if_pos c31] at H
                    have c31b0 := eq_true c31
                    have c31b1 : decide (0 ≤ 32) = true := decide_eq_true c31
                    clear c31
                    by_cases c32 : 32 ≤ (x6_2.size : Int)
                    · rw [if_pos c32] at H
                      have c32b0 := eq_true c32
                      have c32b1 : decide (32 ≤ (x6_2.size : Int)) = true := decide_eq_true c32
                      clear c32
                      by_cases c33 : t184.toList = (x6_2.extract 0 32).toList
                      · rw [if_pos c33] at H
                        have c33b0 : (t184.toList == (x6_2.extract 0 32).toList) = true := beq_iff_eq.mpr c33
                        have c33b1 : (t184.toList != (x6_2.extract 0 32).toList) = false := bne_eq_false_iff_eq.mpr c33
                        clear c33
                        by_cases c34 : ((t183.size : Int) % 136) = 0
                        · rw [if_pos c34] at H
                          have c34b0 : (((t183.size : Int) % 136) == 0) = true := beq_iff_eq.mpr c34
                          have c34b1 : (((t183.size : Int) % 136) != 0) = false := bne_eq_false_iff_eq.mpr c34
                          clear c34
                          by_cases c35 : (t183.size : Int) > (t182.size : Int)
                          · rw [if_pos c35] at H
                            have c35b0 : decide ((t182.size : Int) < (t183.size : Int)) = true := decide_eq_true c35
                            have c35b1 : decide (t182.size < t183.size) = true := decide_eq_true (Int.ofNat_lt.mp c35)
                            clear c35
                            by_cases c36 : 0 ≤ (t182.size : Int)
                            · rw [if_pos c36] at H
                              have c36b0 := eq_true c36
                              have c36b1 : decide (0 ≤ (t182.size : Int)) = true := decide_eq_true c36
                              clear c36
                              by_cases c37 : (t182.size : Int) ≤ (t183.size : Int)
                              · rw [if_pos c37] at H
                                have c37b0 := eq_true c37
                                have c37b1 : decide ((t182.size : Int) ≤ (t183.size : Int)) = true := decide_eq_true c37
                                clear c37
                                by_cases c38 : (t183.extract 0 ((t182.size : Int) : Int).toNat).toList = t182.toList
                                · rw [if_pos c38] at H
                                  have c38b0 : ((t183.extract 0 ((t182.size : Int) : Int).toNat).toList == t182.toList) = true := beq_iff_eq.mpr c38
                                  have c38b2 : ((t183.extract 0 t182.size).toList == t182.toList) = true := by have h_ := c38b0; rw [Int.toNat_natCast] at h_; exact h_
                                  have c38b1 : ((t183.extract 0 ((t182.size : Int) : Int).toNat).toList != t182.toList) = false := bne_eq_false_iff_eq.mpr c38
                                  have c38b3 : ((t183.extract 0 t182.size).toList != t182.toList) = false := by have h_ := c38b1; rw [Int.toNat_natCast] at h_; exact h_
                                  clear c38
                                  replace H := Option.bind_eq_some_iff.mp H
                                  obtain ⟨t191, A390, H⟩ := H
                                  replace H : (if t184.toList = t191.toList then ((Go.Proofs.YtakejfhfkjnhlaaDoor.KW.impl_DigestPair.f t182 (⟨#[120]⟩ : ByteArray)).bind fun t192 => (if t182.size + 1 ≤ 9223372036854775807 then ((Go.Proofs.YtakejfhfkjnhlaaDoor.KW.impl_Digest.f (t182 ++ (⟨#[120]⟩ : ByteArray))).bind fun t193 => (if t192.toList = t193.toList then ((Go.Proofs.YtakejfhfkjnhlaaDoor.KW.impl_DigestHex.f t182).bind fun t194 => (some ((t194.size : Int) == 64))) else (some false))) else (none))) else (some false)) = some r := H
                                  have A39 := Aside0.mk A390
                                  clear A390
                                  by_cases c40 : t184.toList = t191.toList
                                  · rw [if_pos c40] at H
                                    have c40b0 : (t184.toList == t191.toList) = true := beq_iff_eq.mpr c40
                                    have c40b1 : (t184.toList != t191.toList) = false := bne_eq_false_iff_eq.mpr c40
                                    clear c40
                                    replace H := Option.bind_eq_some_iff.mp H
                                    obtain ⟨t192, A410, H⟩ := H
                                    replace H : (if t182.size + 1 ≤ 9223372036854775807 then ((Go.Proofs.YtakejfhfkjnhlaaDoor.KW.impl_Digest.f (t182 ++ (⟨#[120]⟩ : ByteArray))).bind fun t193 => (if t192.toList = t193.toList then ((Go.Proofs.YtakejfhfkjnhlaaDoor.KW.impl_DigestHex.f t182).bind fun t194 => (some ((t194.size : Int) == 64))) else (some false))) else (none)) = some r := H
                                    have A41 := Aside0.mk A410
                                    clear A410
                                    by_cases c42 : t182.size + 1 ≤ 9223372036854775807
                                    · rw [if_pos c42] at H
                                      have c42b0 := eq_true c42
                                      have c42b1 : decide (t182.size + 1 ≤ 9223372036854775807) = true := decide_eq_true c42
                                      try have c42b2 : (9223372036854775807 < t182.size + 1) = False := eq_false (Nat.not_lt.2 c42)
                                      replace H := Option.bind_eq_some_iff.mp H
                                      obtain ⟨t193, A430, H⟩ := H
                                      replace H : (if t192.toList = t193.toList then ((Go.Proofs.YtakejfhfkjnhlaaDoor.KW.impl_DigestHex.f t182).bind fun t194 => (some ((t194.size : Int) == 64))) else (some false)) = some r := H
                                      have A43 := Aside0.mk A430
                                      clear A430
                                      by_cases c44 : t192.toList = t193.toList
                                      · rw [if_pos c44] at H
                                        have c44b0 : (t192.toList == t193.toList) = true := beq_iff_eq.mpr c44
                                        have c44b1 : (t192.toList != t193.toList) = false := bne_eq_false_iff_eq.mpr c44
                                        clear c44
                                        replace H := Option.bind_eq_some_iff.mp H
                                        obtain ⟨t194, A450, H⟩ := H
                                        replace H : (some ((t194.size : Int) == 64)) = some r := H
                                        have A45 := Aside0.mk A450
                                        clear A450
                                        obtain rfl := Option.some.inj H
                                        go_wp2_with (first | (go_at_call 22; (with_reducible refine (Go.Proofs.YtakejfhfkjnhlaaDoor.KW.spec_Digest.calls t182 t191 _ A39.out).mono ?_); rintro e w46 ⟨rfl, hb⟩; have n0_ := Aside0.mk (below_step (by repeat (first | (with_reducible first | exact HB.out | apply below_alloc | apply pw_below_drewN | apply below_drew1) | exact HB.out)) hb); clear HB; have HB := n0_; clear n0_; (try clear hb); (try clear hb2); (try clear hk); (try clear hi)) | (go_at_call 25; (with_reducible refine (Go.Proofs.YtakejfhfkjnhlaaDoor.KW.impl_DigestPair.calls t182 (⟨#[120]⟩ : ByteArray) t192 _ A41.out (HT.out.below (by repeat (first | (with_reducible first | exact HB.out | apply below_alloc | apply pw_below_drewN | apply below_drew1) | exact HB.out)))).mono ?_); rintro e w47 ⟨rfl, hb⟩; have n0_ := Aside0.mk (below_step (by repeat (first | (with_reducible first | exact HB.out | apply below_alloc | apply pw_below_drewN | apply below_drew1) | exact HB.out)) hb); clear HB; have HB := n0_; clear n0_; (try clear hb); (try clear hb2); (try clear hk); (try clear hi)) | (go_at_call 23; (with_reducible refine (Go.Proofs.YtakejfhfkjnhlaaDoor.KW.impl_Digest.calls (t182 ++ (⟨#[120]⟩ : ByteArray)) t193 _ A43.out (HT.out.below (by repeat (first | (with_reducible first | exact HB.out | apply below_alloc | apply pw_below_drewN | apply below_drew1) | exact HB.out)))).mono ?_); rintro e w48 ⟨rfl, hb⟩; have n0_ := Aside0.mk (below_step (by repeat (first | (with_reducible first | exact HB.out | apply below_alloc | apply pw_below_drewN | apply below_drew1) | exact HB.out)) hb); clear HB; have HB := n0_; clear n0_; (try clear hb); (try clear hb2); (try clear hk); (try clear hi)) | (go_at_call 11; (with_reducible refine (Go.Proofs.YtakejfhfkjnhlaaDoor.KW.impl_DigestHex.calls t182 t194 _ A45.out (HT.out.below (by repeat (first | (with_reducible first | exact HB.out | apply below_alloc | apply pw_below_drewN | apply below_drew1) | exact HB.out)))).mono ?_); rintro e w49 ⟨rfl, hb⟩; have n0_ := Aside0.mk (below_step (by repeat (first | (with_reducible first | exact HB.out | apply below_alloc | apply pw_below_drewN | apply below_drew1) | exact HB.out)) hb); clear HB; have HB := n0_; clear n0_; (try clear hb); (try clear hb2); (try clear hk); (try clear hi)))
                                        go_ret
                                        exact ⟨by first | rfl | (simp [errW_none, errW_some] <;> rfl) | (simp [errW_none, errW_some]; generalize ByteArray.toList _ = l_; cases l_ <;> rfl) | (simp [*, errW_none, errW_some] <;> rfl), by repeat (first | (with_reducible first | exact HB.out | apply below_alloc | apply pw_below_drewN | apply below_drew1) | exact HB.out)⟩
                                      · rw [if_neg c44] at H
                                        have c44b0 : (t192.toList == t193.toList) = false := beq_eq_false_iff_ne.mpr c44
                                        have c44b1 : (t192.toList != t193.toList) = true := bne_iff_ne.mpr c44
                                        obtain rfl := Option.some.inj H
                                        go_wp2_with (first | (go_at_call 22; (with_reducible refine (Go.Proofs.YtakejfhfkjnhlaaDoor.KW.spec_Digest.calls t182 t191 _ A39.out).mono ?_); rintro e w50 ⟨rfl, hb⟩; have n0_ := Aside0.mk (below_step (by repeat (first | (with_reducible first | exact HB.out | apply below_alloc | apply pw_below_drewN | apply below_drew1) | exact HB.out)) hb); clear HB; have HB := n0_; clear n0_; (try clear hb); (try clear hb2); (try clear hk); (try clear hi)) | (go_at_call 25; (with_reducible refine (Go.Proofs.YtakejfhfkjnhlaaDoor.KW.impl_DigestPair.calls t182 (⟨#[120]⟩ : ByteArray) t192 _ A41.out (HT.out.below (by repeat (first | (with_reducible first | exact HB.out | apply below_alloc | apply pw_below_drewN | apply below_drew1) | exact HB.out)))).mono ?_); rintro e w51 ⟨rfl, hb⟩; have n0_ := Aside0.mk (below_step (by repeat (first | (with_reducible first | exact HB.out | apply below_alloc | apply pw_below_drewN | apply below_drew1) | exact HB.out)) hb); clear HB; have HB := n0_; clear n0_; (try clear hb); (try clear hb2); (try clear hk); (try clear hi)) | (go_at_call 23; (with_reducible refine (Go.Proofs.YtakejfhfkjnhlaaDoor.KW.impl_Digest.calls (t182 ++ (⟨#[120]⟩ : ByteArray)) t193 _ A43.out (HT.out.below (by repeat (first | (with_reducible first | exact HB.out | apply below_alloc | apply pw_below_drewN | apply below_drew1) | exact HB.out)))).mono ?_); rintro e w52 ⟨rfl, hb⟩; have n0_ := Aside0.mk (below_step (by repeat (first | (with_reducible first | exact HB.out | apply below_alloc | apply pw_below_drewN | apply below_drew1) | exact HB.out)) hb); clear HB; have HB := n0_; clear n0_; (try clear hb); (try clear hb2); (try clear hk); (try clear hi)))
                                        go_ret
                                        exact ⟨by first | rfl | (simp [errW_none, errW_some] <;> rfl) | (simp [errW_none, errW_some]; generalize ByteArray.toList _ = l_; cases l_ <;> rfl) | (simp [*, errW_none, errW_some] <;> rfl), by repeat (first | (with_reducible first | exact HB.out | apply below_alloc | apply pw_below_drewN | apply below_drew1) | exact HB.out)⟩
                                    · rw [if_neg c42] at H
                                      exact absurd H (by simp)
                                  · rw [if_neg c40] at H
                                    have c40b0 : (t184.toList == t191.toList) = false := beq_eq_false_iff_ne.mpr c40
                                    have c40b1 : (t184.toList != t191.toList) = true := bne_iff_ne.mpr c40
                                    obtain rfl := Option.some.inj H
                                    go_wp2_with (first | (go_at_call 22; (with_reducible refine (Go.Proofs.YtakejfhfkjnhlaaDoor.KW.spec_Digest.calls t182 t191 _ A39.out).mono ?_); rintro e w53 ⟨rfl, hb⟩; have n0_ := Aside0.mk (below_step (by repeat (first | (with_reducible first | exact HB.out | apply below_alloc | apply pw_below_drewN | apply below_drew1) | exact HB.out)) hb); clear HB; have HB := n0_; clear n0_; (try clear hb); (try clear hb2); (try clear hk); (try clear hi)))
                                    go_ret
                                    exact ⟨by first | rfl | (simp [errW_none, errW_some] <;> rfl) | (simp [errW_none, errW_some]; generalize ByteArray.toList _ = l_; cases l_ <;> rfl) | (simp [*, errW_none, errW_some] <;> rfl), by repeat (first | (with_reducible first | exact HB.out | apply below_alloc | apply pw_below_drewN | apply below_drew1) | exact HB.out)⟩
                                · rw [if_neg c38] at H
                                  have c38b0 : ((t183.extract 0 ((t182.size : Int) : Int).toNat).toList == t182.toList) = false := beq_eq_false_iff_ne.mpr c38
                                  have c38b2 : ((t183.extract 0 t182.size).toList == t182.toList) = false := by have h_ := c38b0; rw [Int.toNat_natCast] at h_; exact h_
                                  have c38b1 : ((t183.extract 0 ((t182.size : Int) : Int).toNat).toList != t182.toList) = true := bne_iff_ne.mpr c38
                                  have c38b3 : ((t183.extract 0 t182.size).toList != t182.toList) = true := by have h_ := c38b1; rw [Int.toNat_natCast] at h_; exact h_
                                  obtain rfl := Option.some.inj H
                                  go_wp2
                                  go_ret
                                  exact ⟨by first | rfl | (simp [errW_none, errW_some] <;> rfl) | (simp [errW_none, errW_some]; generalize ByteArray.toList _ = l_; cases l_ <;> rfl) | (simp [*, errW_none, errW_some] <;> rfl), by repeat (first | (with_reducible first | exact HB.out | apply below_alloc | apply pw_below_drewN | apply below_drew1) | exact HB.out)⟩
                              · rw [if_neg c37] at H
                                exact absurd H (by simp)
                            · rw [if_neg c36] at H
                              exact absurd H (by simp)
                          · rw [if_neg c35] at H
                            have c35b0 : decide ((t182.size : Int) < (t183.size : Int)) = false := decide_eq_false c35
                            have c35b1 : decide (t182.size < t183.size) = false := decide_eq_false (fun h => c35 (Int.ofNat_lt.mpr h))
                            clear c35
                            obtain rfl := Option.some.inj H
                            go_wp2
                            go_ret
                            exact ⟨by first | rfl | (simp [errW_none, errW_some] <;> rfl) | (simp [errW_none, errW_some]; generalize ByteArray.toList _ = l_; cases l_ <;> rfl) | (simp [*, errW_none, errW_some] <;> rfl), by repeat (first | (with_reducible first | exact HB.out | apply below_alloc | apply pw_below_drewN | apply below_drew1) | exact HB.out)⟩
                        · rw [if_neg c34] at H
                          have c34b0 : (((t183.size : Int) % 136) == 0) = false := beq_eq_false_iff_ne.mpr c34
                          have c34b1 : (((t183.size : Int) % 136) != 0) = true := bne_iff_ne.mpr c34
                          obtain rfl := Option.some.inj H
                          go_wp2
                          go_ret
                          exact ⟨by first | rfl | (simp [errW_none, errW_some] <;> rfl) | (simp [errW_none, errW_some]; generalize ByteArray.toList _ = l_; cases l_ <;> rfl) | (simp [*, errW_none, errW_some] <;> rfl), by repeat (first | (with_reducible first | exact HB.out | apply below_alloc | apply pw_below_drewN | apply below_drew1) | exact HB.out)⟩
                      · rw [if_neg c33] at H
                        have c33b0 : (t184.toList == (x6_2.extract 0 32).toList) = false := beq_eq_false_iff_ne.mpr c33
                        have c33b1 : (t184.toList != (x6_2.extract 0 32).toList) = true := bne_iff_ne.mpr c33
                        obtain rfl := Option.some.inj H
                        go_wp2
                        go_ret
                        exact ⟨by first | rfl | (simp [errW_none, errW_some] <;> rfl) | (simp [errW_none, errW_some]; generalize ByteArray.toList _ = l_; cases l_ <;> rfl) | (simp [*, errW_none, errW_some] <;> rfl), by repeat (first | (with_reducible first | exact HB.out | apply below_alloc | apply pw_below_drewN | apply below_drew1) | exact HB.out)⟩
                    · rw [if_neg c32] at H
                      exact absurd H (by simp)
                  · rw [if_neg c31] at H
                    exact absurd H (by simp)
                · rw [if_neg c30] at H
                  have c30b0 : ((t184.size : Int) == 32) = false := beq_eq_false_iff_ne.mpr c30
                  have c30b1 : ((t184.size : Int) != 32) = true := bne_iff_ne.mpr c30
                  obtain rfl := Option.some.inj H
                  go_wp2
                  go_ret
                  exact ⟨by first | rfl | (simp [errW_none, errW_some] <;> rfl) | (simp [errW_none, errW_some]; generalize ByteArray.toList _ = l_; cases l_ <;> rfl) | (simp [*, errW_none, errW_some] <;> rfl), by repeat (first | (with_reducible first | exact HB.out | apply below_alloc | apply pw_below_drewN | apply below_drew1) | exact HB.out)⟩

/-- THE ONE PURE STATEMENT of laws_FnDigests: yours. -/
def laws_FnDigests.Pure : Prop := ∀ (l0 : List Int), l0.length ≤ maxLen → l0.length * 1 ≤ 140737488351232 → (∀ x ∈ l0, (Lit.int .u8 x).wf = true) → ∃ k, laws_FnDigests.f k l0 = some true
theorem laws_FnDigests.walk (P : laws_FnDigests.Pure) (a0 : Option Addr) (len0 cap0 : Nat) (z0 : List Int) (w : World) (w0 : (a0 = none ∧ len0 = 0 ∧ cap0 = 0 ∧ z0 = []) ∨ ∃ x, a0 = some x ∧ len0 ≤ cap0 ∧ cap0 ≤ maxLen ∧ z0.length = cap0 ∧ (∀ i, i < z0.length → w.cell? (x.add i) = some (.int .u8 (z0.getD i 0))) ∧ ∀ n ∈ z0, (Lit.int .u8 n).wf = true) (y0 : len0 * 1 ≤ 140737488351232) (htab : Go.Proofs.YtakejfhfkjnhlaaDoor.KW.LaidW w) :
    Calls Tryd.prog 9 #[.slice a0 len0 cap0] w fun e w' => e = .returned (.bool true) ∧ Below w.heap.size w w' := by
  obtain ⟨l0, rfl, hr0, hm0, hw0, hc0⟩ := ReadsInt.ofRowC w0
  obtain ⟨k, h⟩ := P l0 hm0 y0 hw0
  refine (laws_FnDigests.calls k _ _ l0 true w (Kd.C_of_reads (d := (0 : Int)) (h1 := fun _ => rfl) hr0) hc0 h htab).mono ?_
  rintro e w' ⟨rfl, hd⟩
  exact ⟨rfl, hd⟩

end Go.Proofs.YtakejfhfkjnhlaaDoor.PFnDigests
