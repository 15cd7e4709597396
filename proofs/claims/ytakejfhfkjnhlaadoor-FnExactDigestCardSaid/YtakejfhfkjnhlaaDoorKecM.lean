/- Walks: the digest of a text by the program; the pairs; in figures. Conditions: none. -/
import Derived.Test.YtakejfhfkjnhlaaDoorKecL
import Derived.StillTailTactics
set_option linter.unusedVariables false
set_option linter.unusedSimpArgs false
namespace Go.Proofs.YtakejfhfkjnhlaaDoor.KW
open Go.RowKit Go.Proofs.YtakejfhfkjnhlaaDoorW.PrintWords Go.Proofs.YtakejfhfkjnhlaaDoorW.PrintLast Go.Proofs.YtakejfhfkjnhlaaDoorW.PrintMore
open Go.Proofs.YtakejfhfkjnhlaaDoor.M Go.Proofs.YtakejfhfkjnhlaaDoor.PFnExactKeccakRound
set_option maxHeartbeats 8000000 in
set_option maxRecDepth 100000 in
theorem implDigest (s : ByteArray) (hs : s.size ≤ 10000000) (w : World) (hL : LaidW w) : Calls Tryd.prog 23 #[.string s] w fun e w' => e = .returned (.string (digOf s)) ∧ Below w.heap.size w w' := by
  have LW : Aside0 (LaidW w) := ⟨hL⟩
  have A1 : Aside0 (∀ W, Calls Tryd.prog 27 #[.string s] W fun e w' => e = .returned (.string (padOf s)) ∧ Below W.heap.size W w') := ⟨implPad s (by omega)⟩
  have HP : Aside0 ((padOf s).size = 136 * ((padOf s).size / 136) ∧ (padOf s).size ≤ 10000200) := ⟨padOf_blocks s, by rw [padOf_size]; omega⟩
  clear hL
  go_enter Tryd.func23, Tryd.ntmps23
  go_wp2_with (first
    | ((with_reducible refine gate_callee (f := 27) rfl ?_); refine goesL_ (some 8) rfl rfl Tryd.func27 (by kernel_rfl) rfl #[.string s] rfl (by (try simp only [List.map_toArray, List.map_cons, List.map_nil]); first | done | rfl) ?_; (with_reducible refine (A1.out _).mono ?_); rintro e wa ⟨rfl, BA⟩; refine ⟨_, rfl, ?_⟩)
    | ((with_reducible refine gate_dst (N := 4) rfl ?_); refine A_new rfl (N := 4) rfl 46 .u64 (List.replicate 25 0) (by first | (go_simp; done) | (go_simp; rfl)) ?_; intro g4 w4 e4 B4 G4))
  have GE : Aside0 (w.heap.size ≤ g4) := ⟨by have := e4.out; have := BA.size; omega⟩
  have G2 : Aside0 (2 ≤ g4) := ⟨by have := LW.out.two; have := GE.out; omega⟩
  have X4 : Aside0 (Blk w4 g4 46 .u64 (stL (padOf s) 0)) := ⟨B4⟩
  have XG : Aside0 (w.grownBy w4 none) := ⟨grown_trans (below_grown BA) G4 (by simp)⟩
  clear BA e4 B4 G4
  go_wp2
  go_loopg [5] ((padOf s).size / 136) (fun d v w' => ∃ (m : Nat) (a : Int), Aside0 (m + d = (padOf s).size / 136) ∧ Aside0 (a = 136 * m) ∧ v = .int .i64 a ∧ Aside0 (Blk w' g4 46 .u64 (stL (padOf s) m)) ∧ Aside0 (w.grownBy w' none))
  case atStart => exact ⟨0, 0, ⟨by omega⟩, ⟨rfl⟩, rfl, X4, XG⟩
  case round =>
    clear X4 XG
    obtain ⟨m, a, HM, HA, rfl, HB, HG⟩ := hrel
    obtain ⟨gk2, HG2⟩ : ∃ n, Aside0 (n = gk) := ⟨_, ⟨rfl⟩⟩
    have em := HM.out
    have ea := HA.out
    have hpb := HP.out
    by_cases c : a < ((padOf s).size : Int)
    · have c0 : decide (a < ((padOf s).size : Int)) = true := decide_eq_true c
      have HC := Aside0.mk c
      clear em ea hpb c
      go_wp2
      go_loopg [15] 17 (fun d v w' => ∃ (k : Nat) (i : Int), Aside0 (k + d = 17) ∧ Aside0 (i = k) ∧ v = .int .i64 i ∧ Aside0 (Blk w' g4 46 .u64 (bf id (abV (padOf s) (stL (padOf s) m) (136 * m)) (stL (padOf s) m) k)) ∧ Aside0 (w.grownBy w' none))
      case atStart => exact ⟨0, 0, ⟨rfl⟩, ⟨rfl⟩, rfl, HB, HG⟩
      case round =>
        clear HB HG c0
        obtain ⟨k, i, HK, HI, rfl, HB, HG⟩ := hrel
        have ei := HI.out
        have ek := HK.out
        have ea := HA.out
        have hpb := HP.out
        by_cases c : i < 17
        · have hca := HC.out
          have hlx : (bf id (abV (padOf s) (stL (padOf s) m) (136 * m)) (stL (padOf s) m) k).length = 25 := by rw [bf_length, stL_length]
          obtain ⟨t8, ht8⟩ : ∃ j : Int, j = ((8 * k : Nat) : Int) := ⟨_, rfl⟩
          have hwt8 : IntKind.i64.wrap (8 * i) = t8 := (i64_at (by omega) (by omega)).trans (by omega)
          obtain ⟨at_, hat⟩ : ∃ j : Int, j = ((136 * m + 8 * k : Nat) : Int) := ⟨_, rfl⟩
          have hwat : IntKind.i64.wrap (a + t8) = at_ := (i64_w _).trans (by unfold wrap64; omega)
          obtain ⟨xw, hxw⟩ : ∃ z : Int, z = ((wordN (padOf s) (136 * m + 8 * k) : Nat) : Int) := ⟨_, rfl⟩
          have AC : Aside0 (∀ W, Calls Tryd.prog 48 #[.string (padOf s), .int .i64 at_] W fun e w' => e = .returned (.int .u64 xw) ∧ w' = W) := ⟨fun W => by rw [hxw]; exact implWordS (padOf s) (136 * m + 8 * k) (by omega) (by omega) at_ hat W⟩
          obtain ⟨wd, hwd⟩ : ∃ wd : World, { heap := wr.heap, tape := wr.tape, drawn := wr.drawn + 1, os := wr.os, output := wr.output : World } = wd := ⟨_, rfl⟩
          have DB : Aside0 (Blk wd g4 46 .u64 (bf id (abV (padOf s) (stL (padOf s) m) (136 * m)) (stL (padOf s) m) k)) := ⟨by rw [← hwd]; exact HB.out⟩
          have DG : Aside0 (w.grownBy wd none) := ⟨by rw [← hwd]; exact grown_drew HG.out⟩
          have hx := DB.out.cell i (by omega) (by rw [hlx]; omega)
          have hf := DB.out.frozen i.toNat
          have hrd : rd (bf id (abV (padOf s) (stL (padOf s) m) (136 * m)) (stL (padOf s) m) k) i = rd (stL (padOf s) m) (k : Int) := by rw [ei]; exact bf_after k k (Nat.le_refl k)
          rw [hrd] at hx
          have HV : Aside0 (Go.bits .xor .u64 (rd (stL (padOf s) m) (k : Int)) xw = abV (padOf s) (stL (padOf s) m) (136 * m) k) := ⟨by rw [hxw]; rfl⟩
          obtain ⟨x0, hx0⟩ : ∃ z : Int, rd (stL (padOf s) m) (k : Int) = z := ⟨_, rfl⟩
          rw [hx0] at hx HV
          have c0 : decide (i < 17) = true := decide_eq_true c
          have p0 : (0 ≤ i) = True := eq_true (by omega)
          have q0 : (i < 25) = True := eq_true (by omega)
          clear hca hx0 hrd hxw hat ht8 hlx ei ek ea c hpb
          go_wp2_with fail
          refine wp_region_still_tail 11 (by kernel_rfl) (by kernel_rfl) ?_
          simp only [List.take_succ_cons, List.take_zero, List.drop_succ_cons, List.drop_zero]
          rw [hwd]
          clear HB HG hwd
          repeat still_step
          still_call (AC.out _)
          repeat still_step
          refine wpStill_nil ?_
          have hiw : IntKind.i64.wrap (i + 1) = i + 1 := i64_at (by have := HI.out; omega) (by have := of_decide_eq_true c0; omega)
          go_wp2
          have ei := HI.out
          have ek := HK.out
          have ci := of_decide_eq_true c0
          go_roundg (gk - 1)
          case measure => omega
          case rel =>
            refine ⟨k + 1, i + 1, ⟨by omega⟩, ⟨by omega⟩, rfl, ⟨?_⟩, ⟨grown_set DG.out _ _ (Or.inl (by have := GE.out; show w.heap.size ≤ g4; omega))⟩⟩
            rw [HV.out]
            have h := DB.out.put i.toNat (abV (padOf s) (stL (padOf s) m) (136 * m) k)
            rw [bf_step (p := id) (m := k) (by rw [ei]; simp) rfl] at h
            exact h
        · have c0 : decide (i < 17) = false := decide_eq_false c
          have ek : k = 17 := by omega
          subst ek
          have XB : Aside0 (Blk wr g4 46 .u64 (abL (padOf s) (136 * m) (stL (padOf s) m))) := HB
          have A2 : Aside0 (Calls Tryd.prog 40 #[.pointer (some ⟨g4, 0, none⟩)] wr fun e w' => e = .returned (.tuple #[]) ∧ Blk w' g4 46 .u64 (stL (padOf s) (m + 1)) ∧ wr.grownBy w' (some g4)) := ⟨implRounds _ (len_ab s m) (allW_ab s m) g4 wr XB.out (LW.out.grown HG.out (by simp) (by simp)) G2.out⟩
          have hca := HC.out
          have haw : IntKind.i64.wrap (a + 136) = a + 136 := (i64_w _).trans (by unfold wrap64; omega)
          clear HB HK HI ei ea hpb hca c
          go_wp2_with (first
            | ((with_reducible refine gate_callee (f := 40) rfl ?_); refine goesL_ (some 30) rfl rfl Tryd.func40 (by kernel_rfl) rfl #[.pointer (some ⟨g4, 0, none⟩)] rfl (by (try simp only [List.map_toArray, List.map_cons, List.map_nil]); first | done | rfl) ?_; (with_reducible refine (A2.out).mono ?_); rintro e wc ⟨rfl, Bp, Gp⟩; refine ⟨_, rfl, ?_⟩))
          have em := HM.out
          have ea := HA.out
          have hpb := HP.out
          have hca := HC.out
          have eg2 := HG2.out
          go_roundg (gk2 - 1)
          case measure => omega
          case rel => exact ⟨m + 1, a + 136, ⟨by omega⟩, ⟨by omega⟩, rfl, ⟨Bp⟩, ⟨grown_trans HG.out Gp (fun k hk => by obtain rfl := Option.some.inj hk; exact Or.inl GE.out)⟩⟩
    · have c0 : decide (a < ((padOf s).size : Int)) = false := decide_eq_false c
      have emm : m = (padOf s).size / 136 := by omega
      have A3 : Aside0 (Calls Tryd.prog 38 #[.pointer (some ⟨g4, 0, none⟩)] wr fun e w' => e = .returned (.string (strOfNums (textL (stL (padOf s) m)))) ∧ Below wr.heap.size wr w') := ⟨implText _ (stL_length _ _) (AllW_st _ _) g4 wr HB.out⟩
      have HT : Aside0 ((strOfNums (textL (stL (padOf s) m))).extract 0 32 = digOf s) := ⟨by rw [emm]; rfl⟩
      have hts := text_size (stL (padOf s) m) (stL_length _ _)
      generalize strOfNums (textL (stL (padOf s) m)) = tx at A3 HT hts
      have q32 : ((32 : Int) ≤ (tx.size : Int)) = True := eq_true (by omega)
      clear HM HA em ea emm hpb c
      go_wp2_with (first
        | ((with_reducible refine gate_callee (f := 38) rfl ?_); refine goesL_ (some 31) rfl rfl Tryd.func38 (by kernel_rfl) rfl #[.pointer (some ⟨g4, 0, none⟩)] rfl (by (try simp only [List.map_toArray, List.map_cons, List.map_nil]); first | done | rfl) ?_; (with_reducible refine (A3.out).mono ?_); rintro e wd ⟨rfl, BD⟩; refine ⟨_, rfl, ?_⟩))
      go_ret
      exact ⟨by rw [← HT.out]; first | rfl | simp, grown_below (grown_trans HG.out (below_grown BD) (by simp))⟩
set_option maxHeartbeats 8000000 in
set_option maxRecDepth 100000 in
theorem specPair (s t : ByteArray) (hs : s.size ≤ 2000000) (ht : t.size ≤ 2000000) (w : World) : Calls Tryd.prog 24 #[.string s, .string t] w fun e w' => e = .returned (.string (digOf (s ++ t))) ∧ Below w.heap.size w w' := by
  have hst : (s ++ t).size = s.size + t.size := ByteArray.size_append
  have hq : (s.size + t.size ≤ 9223372036854775807) = True := eq_true (by omega)
  have hq2 : (9223372036854775807 < s.size + t.size) = False := eq_false (by omega)
  have A1 : Aside0 (Calls Tryd.prog 22 #[.string (s ++ t)] w fun e w' => e = .returned (.string (digOf (s ++ t))) ∧ Below w.heap.size w w') := ⟨specDigest (s ++ t) (by omega) w⟩
  go_enter Tryd.func24, Tryd.ntmps24
  go_wp2_with (first
    | ((with_reducible refine gate_callee (f := 22) rfl ?_); refine goesL_ (some 8) rfl rfl Tryd.func22 (by kernel_rfl) rfl #[.string (s ++ t)] rfl (by (try simp only [List.map_toArray, List.map_cons, List.map_nil]); first | done | rfl) ?_; (with_reducible refine (A1.out).mono ?_); rintro e wa ⟨rfl, BA⟩; refine ⟨_, rfl, ?_⟩))
  go_ret
  exact ⟨rfl, BA⟩
set_option maxHeartbeats 8000000 in
set_option maxRecDepth 100000 in
theorem implPair (s t : ByteArray) (hs : s.size ≤ 2000000) (ht : t.size ≤ 2000000) (w : World) (hL : LaidW w) : Calls Tryd.prog 25 #[.string s, .string t] w fun e w' => e = .returned (.string (digOf (s ++ t))) ∧ Below w.heap.size w w' := by
  have hst : (s ++ t).size = s.size + t.size := ByteArray.size_append
  have hq : (s.size + t.size ≤ 9223372036854775807) = True := eq_true (by omega)
  have hq2 : (9223372036854775807 < s.size + t.size) = False := eq_false (by omega)
  have A1 : Aside0 (Calls Tryd.prog 23 #[.string (s ++ t)] w fun e w' => e = .returned (.string (digOf (s ++ t))) ∧ Below w.heap.size w w') := ⟨implDigest (s ++ t) (by omega) w hL⟩
  go_enter Tryd.func25, Tryd.ntmps25
  go_wp2_with (first
    | ((with_reducible refine gate_callee (f := 23) rfl ?_); refine goesL_ (some 8) rfl rfl Tryd.func23 (by kernel_rfl) rfl #[.string (s ++ t)] rfl (by (try simp only [List.map_toArray, List.map_cons, List.map_nil]); first | done | rfl) ?_; (with_reducible refine (A1.out).mono ?_); rintro e wa ⟨rfl, BA⟩; refine ⟨_, rfl, ?_⟩))
  go_ret
  exact ⟨rfl, BA⟩
set_option maxHeartbeats 8000000 in
set_option maxRecDepth 100000 in
theorem lawDG (s : ByteArray) (w : World) (hL : LaidW w) : Calls Tryd.prog 7 #[.string s] w fun e w' => e = .returned (.bool true) ∧ Below w.heap.size w w' := by
  by_cases c : (s.size : Int) > 1048576
  · have b0 : decide (1048576 < (s.size : Int)) = true := decide_eq_true c
    have b1 : decide (1048576 < s.size) = true := decide_eq_true (by omega)
    clear c
    go_enter Tryd.func7, Tryd.ntmps7
    go_wp2
    go_ret
    exact ⟨rfl, Below.refl _ _⟩
  · have b0 : decide (1048576 < (s.size : Int)) = false := decide_eq_false c
    have b1 : decide (1048576 < s.size) = false := decide_eq_false (by omega)
    have LW : Aside0 (LaidW w) := ⟨hL⟩
    clear c hL
    go_enter Tryd.func7, Tryd.ntmps7
    go_wp2_with (first
      | ((with_reducible refine gate_callee (f := 22) rfl ?_); refine goesL_ (some 9) rfl rfl Tryd.func22 (by kernel_rfl) rfl #[.string s] rfl (by (try simp only [List.map_toArray, List.map_cons, List.map_nil]); first | done | rfl) ?_; (with_reducible refine (specDigest s (by have := of_decide_eq_false b1; omega) _).mono ?_); rintro e wa ⟨rfl, BA⟩; refine ⟨_, rfl, ?_⟩)
      | ((with_reducible refine gate_callee (f := 23) rfl ?_); refine goesL_ (some 11) rfl rfl Tryd.func23 (by kernel_rfl) rfl #[.string s] rfl (by (try simp only [List.map_toArray, List.map_cons, List.map_nil]); first | done | rfl) ?_; (with_reducible refine (implDigest s (by have := of_decide_eq_false b1; omega) _ (LW.out.grown (below_grown BA) (by simp) (by simp))).mono ?_); rintro e wb ⟨rfl, BB⟩; refine ⟨_, rfl, ?_⟩))
    go_ret
    exact ⟨rfl, grown_below (grown_trans (below_grown BA) (below_grown BB) (by simp))⟩
end Go.Proofs.YtakejfhfkjnhlaaDoor.KW
