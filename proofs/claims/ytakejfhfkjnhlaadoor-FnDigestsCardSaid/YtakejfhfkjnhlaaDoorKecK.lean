/- What is padded; the digest of a text as a Lean function; words read without a draw. Conditions: none. -/
import Derived.Test.YtakejfhfkjnhlaaDoorKecI
import Derived.Test.YtakejfhfkjnhlaaDoorQFnExactDigestHexx1
import Derived.Test.YtakejfhfkjnhlaaDoorQFnExactDigestHexx2
import Derived.Test.YtakejfhfkjnhlaaDoorKecMath
import Derived.Test.YtakejfhfkjnhlaaDoorRepeat
set_option linter.unusedVariables false
set_option linter.unusedSimpArgs false
namespace Go.Proofs.YtakejfhfkjnhlaaDoor.KW
open Go.RowKit Go.Proofs.YtakejfhfkjnhlaaDoorW.PrintWords Go.Proofs.YtakejfhfkjnhlaaDoorW.PrintLast Go.Proofs.YtakejfhfkjnhlaaDoorW.PrintMore
open Go.Proofs.YtakejfhfkjnhlaaDoor.PFnExactDigestHex (spec_KeccakPad.l0 spec_KeccakPad.f spec_KeccakPad.calls impl_KeccakPad.f impl_KeccakPad.calls)
open Go.Proofs.YtakejfhfkjnhlaaDoor.M Go.Proofs.YtakejfhfkjnhlaaDoor.PFnExactKeccakRound
theorem spec_KeccakPad_l0 : ∀ (d k : Nat) (X : List Int), d < k → (X.length + d) % 136 = 0 → d < 136 → 0 < X.length → X.length + d ≤ 1000000000 → spec_KeccakPad.l0 k X = some (padFin (X ++ List.replicate d 0)) := by
  intro d
  induction d with
  | zero =>
    intro k X hk hm hd hp hl
    obtain ⟨k, rfl⟩ : ∃ m, k = m + 1 := ⟨k - 1, by omega⟩
    simp only [spec_KeccakPad.l0]
    have e : wrap64 ((X.length : Int) - 1) = ((X.length - 1 : Nat) : Int) := by unfold wrap64; omega
    rw [if_pos (by omega), e, if_pos (by omega), if_pos (by omega), List.replicate_zero, List.append_nil]
    rfl
  | succ d ih =>
    intro k X hk hm hd hp hl
    obtain ⟨k, rfl⟩ : ∃ m, k = m + 1 := ⟨k - 1, by omega⟩
    simp only [spec_KeccakPad.l0]
    rw [if_neg (by omega), if_pos (by omega), ih k (X ++ [0]) (by omega) (by rw [List.length_append, List.length_singleton]; omega) (by omega) (by simp) (by rw [List.length_append, List.length_singleton]; omega)]
    rw [List.append_assoc]
    rfl
theorem spec_KeccakPad_eq (k : Nat) (hk : 140 ≤ k) (s : ByteArray) (hs : s.size ≤ 100000000) : spec_KeccakPad.f k s = some (padOf s) := by
  unfold spec_KeccakPad.f padOf padL
  have hl := bytesOf_length s
  rw [if_pos (by omega)]
  try simp only [Option.bind_some]
  rw [if_pos (by omega), spec_KeccakPad_l0 (135 - s.size % 136) k (bytesOf s ++ [1]) (by omega) (by rw [List.length_append, List.length_singleton]; omega) (by omega) (by simp) (by rw [List.length_append, List.length_singleton]; omega)]
theorem impl_KeccakPad_eq (s : ByteArray) (hs : s.size ≤ 100000000) : impl_KeccakPad.f s = some (padOf s) := by
  unfold impl_KeccakPad.f
  have hr : strings_Repeat.f (⟨#[0]⟩ : ByteArray) (135 - ((s.size : Int) % 136)) = some ⟨(Lib.repeatL [0] (135 - s.size % 136)).toArray⟩ := by
    unfold strings_Repeat.f
    rw [if_pos ⟨by omega, by omega, by show 1 ≤ 1000000; omega⟩, show (135 - ((s.size : Int) % 136)).toNat = 135 - s.size % 136 by omega]
  rw [if_pos (by omega), hr]
  try simp only [Option.bind_some]
  have h1 : (⟨#[1]⟩ : ByteArray).size = 1 := rfl
  have hz := zeros_size (135 - s.size % 136)
  have hb := pad_bytes s
  generalize (⟨(Lib.repeatL [0] (135 - s.size % 136)).toArray⟩ : ByteArray) = z at hz hb ⊢
  rw [ByteArray.size_append, ByteArray.size_append, ByteArray.size_append, h1, hz, if_pos (by omega), if_pos (by omega)]
  try simp only [Option.bind_some]
  rw [hb]
  have hl : (padL s).length = s.size + 1 + (135 - s.size % 136) := padL_length s
  have e : wrap64 (((padL s).length : Int) - 1) = (((padL s).length - 1 : Nat) : Int) := by unfold wrap64; omega
  rw [e, if_pos (by omega), if_pos (by omega)]
  rfl
theorem specPad (s : ByteArray) (hs : s.size ≤ 100000000) (W : World) : Calls Tryd.prog 53 #[.string s] W fun e w' => e = .returned (.string (padOf s)) ∧ Below W.heap.size W w' := spec_KeccakPad.calls 140 s _ W (spec_KeccakPad_eq 140 (by omega) s hs)
theorem implPad (s : ByteArray) (hs : s.size ≤ 100000000) (W : World) : Calls Tryd.prog 27 #[.string s] W fun e w' => e = .returned (.string (padOf s)) ∧ Below W.heap.size W w' := impl_KeccakPad.calls s _ W (impl_KeccakPad_eq s hs)
theorem padOf_size (s : ByteArray) : (padOf s).size = s.size + 1 + (135 - s.size % 136) := by
  unfold padOf padFin
  rw [strOfNums_size, List.length_set, padL_length]
theorem padOf_blocks (s : ByteArray) : (padOf s).size = 136 * ((padOf s).size / 136) := by
  rw [padOf_size]
  omega
theorem bf_after {v : Nat → Int} {l : List Int} : ∀ (m j : Nat), m ≤ j → rd (bf id v l m) (j : Int) = rd l (j : Int)
  | 0, _, _ => rfl
  | m + 1, j, h => by
    rw [show bf id v l (m + 1) = (bf id v l m).set m (v m) from rfl, rd_nat, List.getElem?_set_ne (by omega), ← rd_nat]
    exact bf_after m j (by omega)
def abV (p : ByteArray) (l : List Int) (at_ i : Nat) : Int := Go.bits .xor .u64 (rd l (i : Int)) ((wordN p (at_ + 8 * i) : Nat) : Int)
/-- a block taken in -/
def abL (p : ByteArray) (at_ : Nat) (l : List Int) : List Int := bf id (abV p l at_) l 17
def stL (p : ByteArray) : Nat → List Int
  | 0 => List.replicate 25 0
  | m + 1 => allL (abL p (136 * m) (stL p m)) 24
theorem abL_length (p at_ l) : (abL p at_ l).length = l.length := bf_length _ _ _ _
theorem stL_length (p : ByteArray) : ∀ m, (stL p m).length = 25
  | 0 => by simp [stL]
  | m + 1 => by rw [stL, allL_length, abL_length, stL_length p m]
theorem AllW_ab {p at_} {l : List Int} (h : AllW l) : AllW (abL p at_ l) := AllW_bf h (fun _ => W64_bits _ _ _) 17
theorem AllW_st (p : ByteArray) : ∀ m, AllW (stL p m)
  | 0 => AllW_zero 25
  | m + 1 => AllW_all (AllW_ab (AllW_st p m)) 24
def digOf (s : ByteArray) : ByteArray := (strOfNums (textL (stL (padOf s) ((padOf s).size / 136)))).extract 0 32
theorem text_size (l : List Int) (hl : l.length = 25) : (strOfNums (textL l)).size = 200 := by rw [strOfNums_size, textL_length, hl]
theorem digOf_size (s : ByteArray) : (digOf s).size = 32 := by
  unfold digOf
  rw [ByteArray.size_extract, text_size _ (stL_length _ _)]
  rfl
set_option maxHeartbeats 8000000 in
set_option maxRecDepth 100000 in
theorem impl_wordAt_still (k : Nat) (a0 : ByteArray) (a1 : Int) (r : Int) (w : World) (h : impl_wordAt.f k a0 a1 = some r) :
    Calls Tryd.prog 48 #[.string a0, .int .i64 a1] w fun e w' => e = .returned (.int .u64 r) ∧ w' = w := by
  have H : (impl_wordAt.l0 k a0 a1 0 7) = some r := h
  clear h
  have H' := Aside0.mk H
  clear H
  go_enter Tryd.func48, Tryd.ntmps48
  go_wp2
  go_loopg [5, 6] k (fun kq v5 v6 w' => ∃ (x5_1 : Int) (x6_1 : Int), v5 = .int .u64 x5_1 ∧ v6 = .int .i64 x6_1 ∧ Aside0 (impl_wordAt.l0 kq a0 a1 x5_1 x6_1 = some r) ∧ Aside0 (kq ≤ k) ∧ w' = w)
  case atStart => exact ⟨(0), (7), (by first | rfl | (simp; done) | (simp [*]; done)), (by first | rfl | (simp; done) | (simp [*]; done)), H', ⟨Nat.le_refl _⟩, rfl⟩
  case round =>
    clear H'
    try clear p2
    obtain ⟨x5_1, x6_1, rfl, rfl, HA, HK1, rfl⟩ := hrel
    cases gk with
    | zero => exact absurd HA.out (by simp [impl_wordAt.l0])
    | succ k1 =>
      have H := HA.out
      clear HA
      simp only [impl_wordAt.l0] at H
      by_cases c3 : x6_1 ≥ 0
      · rw [if_pos c3] at H
        have c3b0 : decide (0 ≤ x6_1) = true := decide_eq_true c3
        clear c3
        obtain ⟨ji4, hji4⟩ : ∃ j_ : Int, (wrap64 (a1 + x6_1)) = j_ := ⟨_, rfl⟩
        replace H : (if 0 ≤ (ji4) then (if (ji4) < (a0.size : Int) then (impl_wordAt.l0 k1 a0 a1 (Go.bits .or .u64 (IntKind.u64.wrap (x5_1 * 256)) (IntKind.u64.wrap (bt a0 (ji4)))) (wrap64 (x6_1 - 1))) else (none)) else (none)) = some r := by first | (rw [hji4] at H; exact H) | (simp only [hji4] at H ⊢; exact H)
        have hji4w : (IntKind.i64.wrap (a1 + x6_1)) = ji4 := (i64_w _).trans hji4
        by_cases c5 : 0 ≤ (ji4)
        · rw [if_pos c5] at H
          have c5b0 : decide (0 ≤ (ji4)) = true := decide_eq_true c5
          clear c5
          by_cases c6 : (ji4) < (a0.size : Int)
          · rw [if_pos c6] at H
            have c6b0 : decide ((ji4) < (a0.size : Int)) = true := decide_eq_true c6
            clear c6
            have H' := Aside0.mk H
            clear H
            have p7 : 0 ≤ ((ji4) : Int) := of_decide_eq_true (by first | (with_reducible assumption) | assumption)
            have q7 : (ji4) < (a0.size : Int) := of_decide_eq_true (by first | (with_reducible assumption) | assumption)
            have hx7 := bt_at a0 (ji4)
            replace p7 := eq_true p7
            replace q7 := eq_true q7
            go_wp2
            go_roundg k1
            case measure => have := HK1.out; omega
            case rel => exact ⟨(Go.bits .or .u64 (IntKind.u64.wrap (x5_1 * 256)) (IntKind.u64.wrap (bt a0 (ji4)))), (wrap64 (x6_1 - 1)), (by first | rfl | (simp; done) | (simp only [← hji4] <;> (first | rfl | simp)) | (simp [*]; done)), (by first | rfl | (simp; done) | (simp [*]; done)), H', ⟨by have := HK1.out; omega⟩, rfl⟩
          · rw [if_neg c6] at H
            exact absurd H (by simp)
        · rw [if_neg c5] at H
          exact absurd H (by simp)
      · rw [if_neg c3] at H
        have c3b0 : decide (0 ≤ x6_1) = false := decide_eq_false c3
        clear c3
        obtain rfl := Option.some.inj H
        go_wp2
        go_ret
        exact ⟨by first | rfl | (simp; done) | (simp [*]; done), rfl⟩

-- NOT PRINTED: function 36 (impl_spongeOf)

set_option maxHeartbeats 8000000 in
set_option maxRecDepth 100000 in
theorem spec_l03Word_still (k : Nat) (a0 : ByteArray) (a1 : Int) (r : Int) (w : World) (h : spec_l03Word.f k a0 a1 = some r) :
    Calls Tryd.prog 52 #[.string a0, .int .i64 a1] w fun e w' => e = .returned (.int .u64 r) ∧ w' = w := by
  have H : (spec_l03Word.l0 k a0 a1 0 7) = some r := h
  clear h
  have H' := Aside0.mk H
  clear H
  go_enter Tryd.func52, Tryd.ntmps52
  go_wp2
  go_loopg [5, 6] k (fun kq v5 v6 w' => ∃ (x5_1 : Int) (x6_1 : Int), v5 = .int .u64 x5_1 ∧ v6 = .int .i64 x6_1 ∧ Aside0 (spec_l03Word.l0 kq a0 a1 x5_1 x6_1 = some r) ∧ Aside0 (kq ≤ k) ∧ w' = w)
  case atStart => exact ⟨(0), (7), (by first | rfl | (simp; done) | (simp [*]; done)), (by first | rfl | (simp; done) | (simp [*]; done)), H', ⟨Nat.le_refl _⟩, rfl⟩
  case round =>
    clear H'
    try clear p2
    obtain ⟨x5_1, x6_1, rfl, rfl, HA, HK1, rfl⟩ := hrel
    cases gk with
    | zero => exact absurd HA.out (by simp [spec_l03Word.l0])
    | succ k1 =>
      have H := HA.out
      clear HA
      simp only [spec_l03Word.l0] at H
      by_cases c3 : x6_1 ≥ 0
      · rw [if_pos c3] at H
        have c3b0 : decide (0 ≤ x6_1) = true := decide_eq_true c3
        clear c3
        obtain ⟨ji4, hji4⟩ : ∃ j_ : Int, (wrap64 (a1 + x6_1)) = j_ := ⟨_, rfl⟩
        replace H : (if 0 ≤ (ji4) then (if (ji4) < (a0.size : Int) then (spec_l03Word.l0 k1 a0 a1 (Go.bits .or .u64 (IntKind.u64.wrap (x5_1 * 256)) (IntKind.u64.wrap (bt a0 (ji4)))) (wrap64 (x6_1 - 1))) else (none)) else (none)) = some r := by first | (rw [hji4] at H; exact H) | (simp only [hji4] at H ⊢; exact H)
        have hji4w : (IntKind.i64.wrap (a1 + x6_1)) = ji4 := (i64_w _).trans hji4
        by_cases c5 : 0 ≤ (ji4)
        · rw [if_pos c5] at H
          have c5b0 : decide (0 ≤ (ji4)) = true := decide_eq_true c5
          clear c5
          by_cases c6 : (ji4) < (a0.size : Int)
          · rw [if_pos c6] at H
            have c6b0 : decide ((ji4) < (a0.size : Int)) = true := decide_eq_true c6
            clear c6
            have H' := Aside0.mk H
            clear H
            have p7 : 0 ≤ ((ji4) : Int) := of_decide_eq_true (by first | (with_reducible assumption) | assumption)
            have q7 : (ji4) < (a0.size : Int) := of_decide_eq_true (by first | (with_reducible assumption) | assumption)
            have hx7 := bt_at a0 (ji4)
            replace p7 := eq_true p7
            replace q7 := eq_true q7
            go_wp2
            go_roundg k1
            case measure => have := HK1.out; omega
            case rel => exact ⟨(Go.bits .or .u64 (IntKind.u64.wrap (x5_1 * 256)) (IntKind.u64.wrap (bt a0 (ji4)))), (wrap64 (x6_1 - 1)), (by first | rfl | (simp; done) | (simp only [← hji4] <;> (first | rfl | simp)) | (simp [*]; done)), (by first | rfl | (simp; done) | (simp [*]; done)), H', ⟨by have := HK1.out; omega⟩, rfl⟩
          · rw [if_neg c6] at H
            exact absurd H (by simp)
        · rw [if_neg c5] at H
          exact absurd H (by simp)
      · rw [if_neg c3] at H
        have c3b0 : decide (0 ≤ x6_1) = false := decide_eq_false c3
        clear c3
        obtain rfl := Option.some.inj H
        go_wp2
        go_ret
        exact ⟨by first | rfl | (simp; done) | (simp [*]; done), rfl⟩

-- NOT PRINTED: function 33 (spec_l03Load)

-- NOT PRINTED: function 34 (spec_l03Offsets)

-- NOT PRINTED: function 35 (spec_l03Rounds)

-- NOT PRINTED: function 12 (spec_KeccakRound)

theorem implWordS (s : ByteArray) (a : Nat) (h : a + 8 ≤ s.size) (hs : s.size ≤ 1000000000) (j : Int) (hj : j = (a : Int)) (w : World) : Calls Tryd.prog 48 #[.string s, .int .i64 j] w fun e w' => e = .returned (.int .u64 ((wordN s a : Nat) : Int)) ∧ w' = w := by
  rw [hj]
  exact impl_wordAt_still 9 s a _ w (impl_wordAt_val s a h hs)
theorem specWordS (s : ByteArray) (a : Nat) (h : a + 8 ≤ s.size) (hs : s.size ≤ 1000000000) (j : Int) (hj : j = (a : Int)) (w : World) : Calls Tryd.prog 52 #[.string s, .int .i64 j] w fun e w' => e = .returned (.int .u64 ((wordN s a : Nat) : Int)) ∧ w' = w := by
  rw [hj]
  exact spec_l03Word_still 9 s a _ w (spec_l03Word_val s a h hs)
end Go.Proofs.YtakejfhfkjnhlaaDoor.KW
