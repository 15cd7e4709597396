/- Walks: the digests, the pairs, the digest in figures, and their laws. Conditions: none. -/
import Derived.Test.YtakejfhfkjnhlaaDoorKecK
import Derived.StillTailTactics
set_option linter.unusedVariables false
set_option linter.unusedSimpArgs false
namespace Go.Proofs.YtakejfhfkjnhlaaDoor.KW
open Go.RowKit Go.Proofs.YtakejfhfkjnhlaaDoorW.PrintWords Go.Proofs.YtakejfhfkjnhlaaDoorW.PrintLast Go.Proofs.YtakejfhfkjnhlaaDoorW.PrintMore
open Go.Proofs.YtakejfhfkjnhlaaDoor.M Go.Proofs.YtakejfhfkjnhlaaDoor.PFnExactKeccakRound
theorem allW_ab (s : ByteArray) (m : Nat) : AllW (abL (padOf s) (136 * m) (stL (padOf s) m)) := AllW_ab (AllW_st _ m)
theorem len_ab (s : ByteArray) (m : Nat) : (abL (padOf s) (136 * m) (stL (padOf s) m)).length = 25 := by rw [abL_length, stL_length]
set_option maxHeartbeats 8000000 in
set_option maxRecDepth 100000 in
theorem specDigest (s : ByteArray) (hs : s.size ≤ 10000000) (w : World) : Calls Tryd.prog 22 #[.string s] w fun e w' => e = .returned (.string (digOf s)) ∧ Below w.heap.size w w' := by
  have A1 : Aside0 (∀ W, Calls Tryd.prog 53 #[.string s] W fun e w' => e = .returned (.string (padOf s)) ∧ Below W.heap.size W w') := ⟨specPad s (by omega)⟩
  have HP : Aside0 ((padOf s).size = 136 * ((padOf s).size / 136) ∧ (padOf s).size ≤ 10000200) := ⟨padOf_blocks s, by rw [padOf_size]; omega⟩
  go_enter Tryd.func22, Tryd.ntmps22
  go_wp2_with (first
    | ((with_reducible refine gate_callee (f := 53) rfl ?_); refine goesL_ (some 8) rfl rfl Tryd.func53 (by kernel_rfl) rfl #[.string s] rfl (by (try simp only [List.map_toArray, List.map_cons, List.map_nil]); first | done | rfl) ?_; (with_reducible refine (A1.out _).mono ?_); rintro e wa ⟨rfl, BA⟩; refine ⟨_, rfl, ?_⟩)
    | ((with_reducible refine gate_dst (N := 4) rfl ?_); refine A_new rfl (N := 4) rfl 38 .u64 (List.replicate 25 0) (by first | (go_simp; done) | (go_simp; rfl)) ?_; intro g4 w4 e4 B4 G4)
    | ((with_reducible refine gate_store (t := 38) (p := 4) rfl ?_); refine A_put rfl (.tmp 4) _ rfl 38 .u64 rfl g4 (List.replicate 25 0) (List.replicate 25 0) rfl rfl B4 (rfl) (info38) ?_; intro w5 B5 G5))
  have GE : Aside0 (w.heap.size ≤ g4) := ⟨by have := e4.out; have := BA.size; omega⟩
  have X4 : Aside0 (Blk w5 g4 38 .u64 (stL (padOf s) 0)) := ⟨B5⟩
  have XG : Aside0 (w.grownBy w5 none) := ⟨grown_trans (grown_trans (below_grown BA) G4 (by simp)) G5 (fun k hk => by obtain rfl := Option.some.inj hk; exact Or.inl GE.out)⟩
  clear BA e4 B4 B5 G4 G5
  go_loopg [5] ((padOf s).size / 136) (fun d v w' => ∃ (m : Nat) (a : Int), Aside0 (m + d = (padOf s).size / 136) ∧ Aside0 (a = 136 * m) ∧ v = .int .i64 a ∧ Aside0 (Blk w' g4 38 .u64 (stL (padOf s) m)) ∧ Aside0 (w.grownBy w' none))
  case atStart => exact ⟨0, 0, ⟨by omega⟩, ⟨rfl⟩, rfl, X4, XG⟩
  case round =>
    clear X4 XG
    obtain ⟨m, a, HM, HA, rfl, HB, HG⟩ := hrel
    obtain ⟨gk2, HG2⟩ : ∃ n, Aside0 (n = gk) := ⟨_, ⟨rfl⟩⟩
    have em := HM.out
    have ea := HA.out
    have hpb := HP.out
    by_cases c : a < ((padOf s).size : Int)
    · have c0 : decide (a < ((padOf s).size : Int)) = true := decide_eq_true c
      have HC := Aside0.mk c
      clear em ea hpb c
      go_wp2
      go_loopg [6] 17 (fun d v w' => ∃ (k : Nat) (i : Int), Aside0 (k + d = 17) ∧ Aside0 (i = k) ∧ v = .int .i64 i ∧ Aside0 (Blk w' g4 38 .u64 (bf id (abV (padOf s) (stL (padOf s) m) (136 * m)) (stL (padOf s) m) k)) ∧ Aside0 (w.grownBy w' none))
      case atStart => exact ⟨0, 0, ⟨rfl⟩, ⟨rfl⟩, rfl, HB, HG⟩
      case round =>
        clear HB HG c0
        obtain ⟨k, i, HK, HI, rfl, HB, HG⟩ := hrel
        have ei := HI.out
        have ek := HK.out
        have ea := HA.out
        have hpb := HP.out
        by_cases c : i < 17
        · have hca := HC.out
          have hlx : (bf id (abV (padOf s) (stL (padOf s) m) (136 * m)) (stL (padOf s) m) k).length = 25 := by rw [bf_length, stL_length]
          obtain ⟨t8, ht8⟩ : ∃ j : Int, j = ((8 * k : Nat) : Int) := ⟨_, rfl⟩
          have hwt8 : IntKind.i64.wrap (8 * i) = t8 := (i64_at (by omega) (by omega)).trans (by omega)
          obtain ⟨at_, hat⟩ : ∃ j : Int, j = ((136 * m + 8 * k : Nat) : Int) := ⟨_, rfl⟩
          have hwat : IntKind.i64.wrap (a + t8) = at_ := (i64_w _).trans (by unfold wrap64; omega)
          obtain ⟨xw, hxw⟩ : ∃ z : Int, z = ((wordN (padOf s) (136 * m + 8 * k) : Nat) : Int) := ⟨_, rfl⟩
          have AC : Aside0 (∀ W, Calls Tryd.prog 52 #[.string (padOf s), .int .i64 at_] W fun e w' => e = .returned (.int .u64 xw) ∧ w' = W) := ⟨fun W => by rw [hxw]; exact specWordS (padOf s) (136 * m + 8 * k) (by omega) (by omega) at_ hat W⟩
          obtain ⟨wd, hwd⟩ : ∃ wd : World, { heap := wr.heap, tape := wr.tape, drawn := wr.drawn + 1, os := wr.os, output := wr.output : World } = wd := ⟨_, rfl⟩
          have DB : Aside0 (Blk wd g4 38 .u64 (bf id (abV (padOf s) (stL (padOf s) m) (136 * m)) (stL (padOf s) m) k)) := ⟨by rw [← hwd]; exact HB.out⟩
          have DG : Aside0 (w.grownBy wd none) := ⟨by rw [← hwd]; exact grown_drew HG.out⟩
          have hx := DB.out.cell i (by omega) (by rw [hlx]; omega)
          have hf := DB.out.frozen i.toNat
          have hrd : rd (bf id (abV (padOf s) (stL (padOf s) m) (136 * m)) (stL (padOf s) m) k) i = rd (stL (padOf s) m) (k : Int) := by rw [ei]; exact bf_after k k (Nat.le_refl k)
          rw [hrd] at hx
          have HV : Aside0 (Go.bits .xor .u64 (rd (stL (padOf s) m) (k : Int)) xw = abV (padOf s) (stL (padOf s) m) (136 * m) k) := ⟨by rw [hxw]; rfl⟩
          obtain ⟨x0, hx0⟩ : ∃ z : Int, rd (stL (padOf s) m) (k : Int) = z := ⟨_, rfl⟩
          rw [hx0] at hx HV
          have c0 : decide (i < 17) = true := decide_eq_true c
          have p0 : (0 ≤ i) = True := eq_true (by omega)
          have q0 : (i < 25) = True := eq_true (by omega)
          clear hca hx0 hrd hxw hat ht8 hlx ei ek ea c hpb
          go_wp2_with fail
          refine wp_region_still_tail 12 (by kernel_rfl) (by kernel_rfl) ?_
          simp only [List.take_succ_cons, List.take_zero, List.drop_succ_cons, List.drop_zero]
          rw [hwd]
          clear HB HG hwd
          repeat still_step
          still_call (AC.out _)
          repeat still_step
          refine wpStill_nil ?_
          have hiw : IntKind.i64.wrap (i + 1) = i + 1 := i64_at (by have := HI.out; omega) (by have := of_decide_eq_true c0; omega)
          go_wp2
          have ei := HI.out
          have ek := HK.out
          have ci := of_decide_eq_true c0
          go_roundg (gk - 1)
          case measure => omega
          case rel =>
            refine ⟨k + 1, i + 1, ⟨by omega⟩, ⟨by omega⟩, rfl, ⟨?_⟩, ⟨grown_set DG.out _ _ (Or.inl (by have := GE.out; show w.heap.size ≤ g4; omega))⟩⟩
            rw [HV.out]
            have h := DB.out.put i.toNat (abV (padOf s) (stL (padOf s) m) (136 * m) k)
            rw [bf_step (p := id) (m := k) (by rw [ei]; simp) rfl] at h
            exact h
        · have c0 : decide (i < 17) = false := decide_eq_false c
          have ek : k = 17 := by omega
          subst ek
          have XB : Aside0 (Blk wr g4 38 .u64 (abL (padOf s) (136 * m) (stL (padOf s) m))) := HB
          have A2 : Aside0 (∀ W, Calls Tryd.prog 39 #[.agg (nums .u64 (abL (padOf s) (136 * m) (stL (padOf s) m))).toArray] W fun e w' => e = .returned (.agg (nums .u64 (stL (padOf s) (m + 1))).toArray) ∧ Below W.heap.size W w') := ⟨specAll _ (len_ab s m) (allW_ab s m)⟩
          have hla := len_ab s m
          have hca := HC.out
          have haw : IntKind.i64.wrap (a + 136) = a + 136 := (i64_w _).trans (by unfold wrap64; omega)
          clear HB HK HI ei ea hpb hca c
          go_wp2_with (first
            | ((with_reducible refine gate_dst (N := 32) rfl ?_); refine A_get rfl (.tmp 4) 38 .u64 rfl g4 _ rfl XB.out Tryd.underlying38 (by rw [hla]; exact info38) ?_)
            | ((with_reducible refine gate_callee (f := 39) rfl ?_); refine goesL_ (some 33) rfl rfl Tryd.func39 (by kernel_rfl) rfl #[.agg (nums .u64 (abL (padOf s) (136 * m) (stL (padOf s) m))).toArray] rfl (by (try simp only [List.map_toArray, List.map_cons, List.map_nil]); first | done | rfl) ?_; (with_reducible refine (A2.out _).mono ?_); rintro e wc ⟨rfl, BC⟩; refine ⟨_, rfl, ?_⟩)
            | ((with_reducible refine gate_store (t := 38) (p := 4) rfl ?_); refine A_put rfl (.tmp 4) _ rfl 38 .u64 rfl g4 (abL (padOf s) (136 * m) (stL (padOf s) m)) (stL (padOf s) (m + 1)) rfl rfl (XB.out.grown (below_grown BC) (by simp)) (by rw [hla, stL_length]) (by rw [stL_length]; exact info38) ?_; intro wp Bp Gp))
          have em := HM.out
          have ea := HA.out
          have hpb := HP.out
          have hca := HC.out
          have eg2 := HG2.out
          go_roundg (gk2 - 1)
          case measure => omega
          case rel => exact ⟨m + 1, a + 136, ⟨by omega⟩, ⟨by omega⟩, rfl, ⟨Bp⟩, ⟨grown_trans (grown_trans HG.out (below_grown BC) (by simp)) Gp (fun k hk => by obtain rfl := Option.some.inj hk; exact Or.inl GE.out)⟩⟩
    · have c0 : decide (a < ((padOf s).size : Int)) = false := decide_eq_false c
      have emm : m = (padOf s).size / 136 := by omega
      have A3 : Aside0 (∀ W, Calls Tryd.prog 31 #[.agg (nums .u64 (stL (padOf s) m)).toArray] W fun e w' => e = .returned (.string (strOfNums (textL (stL (padOf s) m)))) ∧ Below W.heap.size W w') := ⟨specText _ (stL_length _ _) (AllW_st _ _)⟩
      have HT : Aside0 ((strOfNums (textL (stL (padOf s) m))).extract 0 32 = digOf s) := ⟨by rw [emm]; rfl⟩
      have hts := text_size (stL (padOf s) m) (stL_length _ _)
      generalize strOfNums (textL (stL (padOf s) m)) = tx at A3 HT hts
      have q32 : ((32 : Int) ≤ (tx.size : Int)) = True := eq_true (by omega)
      have hl3 := stL_length (padOf s) m
      clear HM HA em ea emm hpb c
      go_wp2_with (first
        | ((with_reducible refine gate_dst (N := 34) rfl ?_); refine A_get rfl (.tmp 4) 38 .u64 rfl g4 _ rfl HB.out Tryd.underlying38 (by rw [hl3]; exact info38) ?_)
        | ((with_reducible refine gate_callee (f := 31) rfl ?_); refine goesL_ (some 35) rfl rfl Tryd.func31 (by kernel_rfl) rfl #[.agg (nums .u64 (stL (padOf s) m)).toArray] rfl (by (try simp only [List.map_toArray, List.map_cons, List.map_nil]); first | done | rfl) ?_; (with_reducible refine (A3.out _).mono ?_); rintro e wd ⟨rfl, BD⟩; refine ⟨_, rfl, ?_⟩))
      go_ret
      exact ⟨by rw [← HT.out]; first | rfl | simp, grown_below (grown_trans HG.out (below_grown BD) (by simp))⟩
end Go.Proofs.YtakejfhfkjnhlaaDoor.KW
namespace Go.Proofs.YtakejfhfkjnhlaaDoor.KW
open Go.RowKit Go.Proofs.YtakejfhfkjnhlaaDoorW.PrintWords Go.Proofs.YtakejfhfkjnhlaaDoorW.PrintLast Go.Proofs.YtakejfhfkjnhlaaDoorW.PrintMore
open Go.Proofs.YtakejfhfkjnhlaaDoor.M Go.Proofs.YtakejfhfkjnhlaaDoor.PFnExactKeccakRound
set_option maxHeartbeats 8000000 in
set_option maxRecDepth 100000 in
theorem implDigest (s : ByteArray) (hs : s.size ≤ 10000000) (w : World) (hL : LaidW w) : Calls Tryd.prog 23 #[.string s] w fun e w' => e = .returned (.string (digOf s)) ∧ Below w.heap.size w w' := by
  have LW : Aside0 (LaidW w) := ⟨hL⟩
  have A1 : Aside0 (∀ W, Calls Tryd.prog 27 #[.string s] W fun e w' => e = .returned (.string (padOf s)) ∧ Below W.heap.size W w') := ⟨implPad s (by omega)⟩
  have HP : Aside0 ((padOf s).size = 136 * ((padOf s).size / 136) ∧ (padOf s).size ≤ 10000200) := ⟨padOf_blocks s, by rw [padOf_size]; omega⟩
  clear hL
  go_enter Tryd.func23, Tryd.ntmps23
  go_wp2_with (first
    | ((with_reducible refine gate_callee (f := 27) rfl ?_); refine goesL_ (some 8) rfl rfl Tryd.func27 (by kernel_rfl) rfl #[.string s] rfl (by (try simp only [List.map_toArray, List.map_cons, List.map_nil]); first | done | rfl) ?_; (with_reducible refine (A1.out _).mono ?_); rintro e wa ⟨rfl, BA⟩; refine ⟨_, rfl, ?_⟩)
    | ((with_reducible refine gate_dst (N := 4) rfl ?_); refine A_new rfl (N := 4) rfl 46 .u64 (List.replicate 25 0) (by first | (go_simp; done) | (go_simp; rfl)) ?_; intro g4 w4 e4 B4 G4))
  have GE : Aside0 (w.heap.size ≤ g4) := ⟨by have := e4.out; have := BA.size; omega⟩
  have G2 : Aside0 (2 ≤ g4) := ⟨by have := LW.out.two; have := GE.out; omega⟩
  have X4 : Aside0 (Blk w4 g4 46 .u64 (stL (padOf s) 0)) := ⟨B4⟩
  have XG : Aside0 (w.grownBy w4 none) := ⟨grown_trans (below_grown BA) G4 (by simp)⟩
  clear BA e4 B4 G4
  go_wp2
  go_loopg [5] ((padOf s).size / 136) (fun d v w' => ∃ (m : Nat) (a : Int), Aside0 (m + d = (padOf s).size / 136) ∧ Aside0 (a = 136 * m) ∧ v = .int .i64 a ∧ Aside0 (Blk w' g4 46 .u64 (stL (padOf s) m)) ∧ Aside0 (w.grownBy w' none))
  case atStart => exact ⟨0, 0, ⟨by omega⟩, ⟨rfl⟩, rfl, X4, XG⟩
  case round =>
    clear X4 XG
    obtain ⟨m, a, HM, HA, rfl, HB, HG⟩ := hrel
    obtain ⟨gk2, HG2⟩ : ∃ n, Aside0 (n = gk) := ⟨_, ⟨rfl⟩⟩
    have em := HM.out
    have ea := HA.out
    have hpb := HP.out
    by_cases c : a < ((padOf s).size : Int)
    · have c0 : decide (a < ((padOf s).size : Int)) = true := decide_eq_true c
      have HC := Aside0.mk c
      clear em ea hpb c
      go_wp2
      go_loopg [15] 17 (fun d v w' => ∃ (k : Nat) (i : Int), Aside0 (k + d = 17) ∧ Aside0 (i = k) ∧ v = .int .i64 i ∧ Aside0 (Blk w' g4 46 .u64 (bf id (abV (padOf s) (stL (padOf s) m) (136 * m)) (stL (padOf s) m) k)) ∧ Aside0 (w.grownBy w' none))
      case atStart => exact ⟨0, 0, ⟨rfl⟩, ⟨rfl⟩, rfl, HB, HG⟩
      case round =>
        clear HB HG c0
        obtain ⟨k, i, HK, HI, rfl, HB, HG⟩ := hrel
        have ei := HI.out
        have ek := HK.out
        have ea := HA.out
        have hpb := HP.out
        by_cases c : i < 17
        · have hca := HC.out
          have hlx : (bf id (abV (padOf s) (stL (padOf s) m) (136 * m)) (stL (padOf s) m) k).length = 25 := by rw [bf_length, stL_length]
          obtain ⟨t8, ht8⟩ : ∃ j : Int, j = ((8 * k : Nat) : Int) := ⟨_, rfl⟩
          have hwt8 : IntKind.i64.wrap (8 * i) = t8 := (i64_at (by omega) (by omega)).trans (by omega)
          obtain ⟨at_, hat⟩ : ∃ j : Int, j = ((136 * m + 8 * k : Nat) : Int) := ⟨_, rfl⟩
          have hwat : IntKind.i64.wrap (a + t8) = at_ := (i64_w _).trans (by unfold wrap64; omega)
          obtain ⟨xw, hxw⟩ : ∃ z : Int, z = ((wordN (padOf s) (136 * m + 8 * k) : Nat) : Int) := ⟨_, rfl⟩
          have AC : Aside0 (∀ W, Calls Tryd.prog 48 #[.string (padOf s), .int .i64 at_] W fun e w' => e = .returned (.int .u64 xw) ∧ w' = W) := ⟨fun W => by rw [hxw]; exact implWordS (padOf s) (136 * m + 8 * k) (by omega) (by omega) at_ hat W⟩
          obtain ⟨wd, hwd⟩ : ∃ wd : World, { heap := wr.heap, tape := wr.tape, drawn := wr.drawn + 1, os := wr.os, output := wr.output : World } = wd := ⟨_, rfl⟩
          have DB : Aside0 (Blk wd g4 46 .u64 (bf id (abV (padOf s) (stL (padOf s) m) (136 * m)) (stL (padOf s) m) k)) := ⟨by rw [← hwd]; exact HB.out⟩
          have DG : Aside0 (w.grownBy wd none) := ⟨by rw [← hwd]; exact grown_drew HG.out⟩
          have hx := DB.out.cell i (by omega) (by rw [hlx]; omega)
          have hf := DB.out.frozen i.toNat
          have hrd : rd (bf id (abV (padOf s) (stL (padOf s) m) (136 * m)) (stL (padOf s) m) k) i = rd (stL (padOf s) m) (k : Int) := by rw [ei]; exact bf_after k k (Nat.le_refl k)
          rw [hrd] at hx
          have HV : Aside0 (Go.bits .xor .u64 (rd (stL (padOf s) m) (k : Int)) xw = abV (padOf s) (stL (padOf s) m) (136 * m) k) := ⟨by rw [hxw]; rfl⟩
          obtain ⟨x0, hx0⟩ : ∃ z : Int, rd (stL (padOf s) m) (k : Int) = z := ⟨_, rfl⟩
          rw [hx0] at hx HV
          have c0 : decide (i < 17) = true := decide_eq_true c
          have p0 : (0 ≤ i) = True := eq_true (by omega)
          have q0 : (i < 25) = True := eq_true (by omega)
          clear hca hx0 hrd hxw hat ht8 hlx ei ek ea c hpb
          go_wp2_with fail
          refine wp_region_still_tail 11 (by kernel_rfl) (by kernel_rfl) ?_
          simp only [List.take_succ_cons, List.take_zero, List.drop_succ_cons, List.drop_zero]
          rw [hwd]
          clear HB HG hwd
          repeat still_step
          still_call (AC.out _)
          repeat still_step
          refine wpStill_nil ?_
          have hiw : IntKind.i64.wrap (i + 1) = i + 1 := i64_at (by have := HI.out; omega) (by have := of_decide_eq_true c0; omega)
          go_wp2
          have ei := HI.out
          have ek := HK.out
          have ci := of_decide_eq_true c0
          go_roundg (gk - 1)
          case measure => omega
          case rel =>
            refine ⟨k + 1, i + 1, ⟨by omega⟩, ⟨by omega⟩, rfl, ⟨?_⟩, ⟨grown_set DG.out _ _ (Or.inl (by have := GE.out; show w.heap.size ≤ g4; omega))⟩⟩
            rw [HV.out]
            have h := DB.out.put i.toNat (abV (padOf s) (stL (padOf s) m) (136 * m) k)
            rw [bf_step (p := id) (m := k) (by rw [ei]; simp) rfl] at h
            exact h
        · have c0 : decide (i < 17) = false := decide_eq_false c
          have ek : k = 17 := by omega
          subst ek
          have XB : Aside0 (Blk wr g4 46 .u64 (abL (padOf s) (136 * m) (stL (padOf s) m))) := HB
          have A2 : Aside0 (Calls Tryd.prog 40 #[.pointer (some ⟨g4, 0, none⟩)] wr fun e w' => e = .returned (.tuple #[]) ∧ Blk w' g4 46 .u64 (stL (padOf s) (m + 1)) ∧ wr.grownBy w' (some g4)) := ⟨implRounds _ (len_ab s m) (allW_ab s m) g4 wr XB.out (LW.out.grown HG.out (by simp) (by simp)) G2.out⟩
          have hca := HC.out
          have haw : IntKind.i64.wrap (a + 136) = a + 136 := (i64_w _).trans (by unfold wrap64; omega)
          clear HB HK HI ei ea hpb hca c
          go_wp2_with (first
            | ((with_reducible refine gate_callee (f := 40) rfl ?_); refine goesL_ (some 30) rfl rfl Tryd.func40 (by kernel_rfl) rfl #[.pointer (some ⟨g4, 0, none⟩)] rfl (by (try simp only [List.map_toArray, List.map_cons, List.map_nil]); first | done | rfl) ?_; (with_reducible refine (A2.out).mono ?_); rintro e wc ⟨rfl, Bp, Gp⟩; refine ⟨_, rfl, ?_⟩))
          have em := HM.out
          have ea := HA.out
          have hpb := HP.out
          have hca := HC.out
          have eg2 := HG2.out
          go_roundg (gk2 - 1)
          case measure => omega
          case rel => exact ⟨m + 1, a + 136, ⟨by omega⟩, ⟨by omega⟩, rfl, ⟨Bp⟩, ⟨grown_trans HG.out Gp (fun k hk => by obtain rfl := Option.some.inj hk; exact Or.inl GE.out)⟩⟩
    · have c0 : decide (a < ((padOf s).size : Int)) = false := decide_eq_false c
      have emm : m = (padOf s).size / 136 := by omega
      have A3 : Aside0 (Calls Tryd.prog 38 #[.pointer (some ⟨g4, 0, none⟩)] wr fun e w' => e = .returned (.string (strOfNums (textL (stL (padOf s) m)))) ∧ Below wr.heap.size wr w') := ⟨implText _ (stL_length _ _) (AllW_st _ _) g4 wr HB.out⟩
      have HT : Aside0 ((strOfNums (textL (stL (padOf s) m))).extract 0 32 = digOf s) := ⟨by rw [emm]; rfl⟩
      have hts := text_size (stL (padOf s) m) (stL_length _ _)
      generalize strOfNums (textL (stL (padOf s) m)) = tx at A3 HT hts
      have q32 : ((32 : Int) ≤ (tx.size : Int)) = True := eq_true (by omega)
      clear HM HA em ea emm hpb c
      go_wp2_with (first
        | ((with_reducible refine gate_callee (f := 38) rfl ?_); refine goesL_ (some 31) rfl rfl Tryd.func38 (by kernel_rfl) rfl #[.pointer (some ⟨g4, 0, none⟩)] rfl (by (try simp only [List.map_toArray, List.map_cons, List.map_nil]); first | done | rfl) ?_; (with_reducible refine (A3.out).mono ?_); rintro e wd ⟨rfl, BD⟩; refine ⟨_, rfl, ?_⟩))
      go_ret
      exact ⟨by rw [← HT.out]; first | rfl | simp, grown_below (grown_trans HG.out (below_grown BD) (by simp))⟩
set_option maxHeartbeats 8000000 in
set_option maxRecDepth 100000 in
theorem specPair (s t : ByteArray) (hs : s.size ≤ 2000000) (ht : t.size ≤ 2000000) (w : World) : Calls Tryd.prog 24 #[.string s, .string t] w fun e w' => e = .returned (.string (digOf (s ++ t))) ∧ Below w.heap.size w w' := by
  have hst : (s ++ t).size = s.size + t.size := ByteArray.size_append
  have hq : (s.size + t.size ≤ 9223372036854775807) = True := eq_true (by omega)
  have hq2 : (9223372036854775807 < s.size + t.size) = False := eq_false (by omega)
  have A1 : Aside0 (Calls Tryd.prog 22 #[.string (s ++ t)] w fun e w' => e = .returned (.string (digOf (s ++ t))) ∧ Below w.heap.size w w') := ⟨specDigest (s ++ t) (by omega) w⟩
  go_enter Tryd.func24, Tryd.ntmps24
  go_wp2_with (first
    | ((with_reducible refine gate_callee (f := 22) rfl ?_); refine goesL_ (some 8) rfl rfl Tryd.func22 (by kernel_rfl) rfl #[.string (s ++ t)] rfl (by (try simp only [List.map_toArray, List.map_cons, List.map_nil]); first | done | rfl) ?_; (with_reducible refine (A1.out).mono ?_); rintro e wa ⟨rfl, BA⟩; refine ⟨_, rfl, ?_⟩))
  go_ret
  exact ⟨rfl, BA⟩
set_option maxHeartbeats 8000000 in
set_option maxRecDepth 100000 in
theorem implPair (s t : ByteArray) (hs : s.size ≤ 2000000) (ht : t.size ≤ 2000000) (w : World) (hL : LaidW w) : Calls Tryd.prog 25 #[.string s, .string t] w fun e w' => e = .returned (.string (digOf (s ++ t))) ∧ Below w.heap.size w w' := by
  have hst : (s ++ t).size = s.size + t.size := ByteArray.size_append
  have hq : (s.size + t.size ≤ 9223372036854775807) = True := eq_true (by omega)
  have hq2 : (9223372036854775807 < s.size + t.size) = False := eq_false (by omega)
  have A1 : Aside0 (Calls Tryd.prog 23 #[.string (s ++ t)] w fun e w' => e = .returned (.string (digOf (s ++ t))) ∧ Below w.heap.size w w') := ⟨implDigest (s ++ t) (by omega) w hL⟩
  go_enter Tryd.func25, Tryd.ntmps25
  go_wp2_with (first
    | ((with_reducible refine gate_callee (f := 23) rfl ?_); refine goesL_ (some 8) rfl rfl Tryd.func23 (by kernel_rfl) rfl #[.string (s ++ t)] rfl (by (try simp only [List.map_toArray, List.map_cons, List.map_nil]); first | done | rfl) ?_; (with_reducible refine (A1.out).mono ?_); rintro e wa ⟨rfl, BA⟩; refine ⟨_, rfl, ?_⟩))
  go_ret
  exact ⟨rfl, BA⟩
set_option maxHeartbeats 8000000 in
set_option maxRecDepth 100000 in
theorem lawDG (s : ByteArray) (w : World) (hL : LaidW w) : Calls Tryd.prog 7 #[.string s] w fun e w' => e = .returned (.bool true) ∧ Below w.heap.size w w' := by
  by_cases c : (s.size : Int) > 1048576
  · have b0 : decide (1048576 < (s.size : Int)) = true := decide_eq_true c
    have b1 : decide (1048576 < s.size) = true := decide_eq_true (by omega)
    clear c
    go_enter Tryd.func7, Tryd.ntmps7
    go_wp2
    go_ret
    exact ⟨rfl, Below.refl _ _⟩
  · have b0 : decide (1048576 < (s.size : Int)) = false := decide_eq_false c
    have b1 : decide (1048576 < s.size) = false := decide_eq_false (by omega)
    have LW : Aside0 (LaidW w) := ⟨hL⟩
    clear c hL
    go_enter Tryd.func7, Tryd.ntmps7
    go_wp2_with (first
      | ((with_reducible refine gate_callee (f := 22) rfl ?_); refine goesL_ (some 9) rfl rfl Tryd.func22 (by kernel_rfl) rfl #[.string s] rfl (by (try simp only [List.map_toArray, List.map_cons, List.map_nil]); first | done | rfl) ?_; (with_reducible refine (specDigest s (by have := of_decide_eq_false b1; omega) _).mono ?_); rintro e wa ⟨rfl, BA⟩; refine ⟨_, rfl, ?_⟩)
      | ((with_reducible refine gate_callee (f := 23) rfl ?_); refine goesL_ (some 11) rfl rfl Tryd.func23 (by kernel_rfl) rfl #[.string s] rfl (by (try simp only [List.map_toArray, List.map_cons, List.map_nil]); first | done | rfl) ?_; (with_reducible refine (implDigest s (by have := of_decide_eq_false b1; omega) _ (LW.out.grown (below_grown BA) (by simp) (by simp))).mono ?_); rintro e wb ⟨rfl, BB⟩; refine ⟨_, rfl, ?_⟩))
    go_ret
    exact ⟨rfl, grown_below (grown_trans (below_grown BA) (below_grown BB) (by simp))⟩
end Go.Proofs.YtakejfhfkjnhlaaDoor.KW
namespace Go.Proofs.YtakejfhfkjnhlaaDoor.KW
open Go.RowKit Go.Proofs.YtakejfhfkjnhlaaDoorW.PrintWords Go.Proofs.YtakejfhfkjnhlaaDoorW.PrintLast Go.Proofs.YtakejfhfkjnhlaaDoorW.PrintMore
open Go.Proofs.YtakejfhfkjnhlaaDoor.PFnExactDigestHex (spec_Hex.l0 spec_Hex.f spec_Hex.calls impl_Hex.l0 impl_Hex.f impl_Hex.calls spec_l01Figure.f)
open Go.Proofs.YtakejfhfkjnhlaaDoor.M Go.Proofs.YtakejfhfkjnhlaaDoor.PFnExactKeccakRound
def figOf (a : Int) : Int := if a < 10 then 48 + a else 87 + a
theorem spec_l01Figure_eq (a : Int) (h0 : 0 ≤ a) (h1 : a < 16) : spec_l01Figure.f a = some (figOf a) := by
  have w : ∀ n : Int, -1000 ≤ n → n < 1000000 → wrap64 n = n := by
    intro n q1 q2
    unfold wrap64
    omega
  unfold spec_l01Figure.f figOf
  by_cases h : a < 10
  · rw [if_pos h, if_pos h, w _ (by omega) (by omega)]
    congr 1
    omega
  · rw [if_neg h, if_neg h, w (97 + a) (by omega) (by omega), w _ (by omega) (by omega)]
    congr 1
    omega
def hexD : ByteArray := ⟨#[48, 49, 50, 51, 52, 53, 54, 55, 56, 57, 97, 98, 99, 100, 101, 102]⟩
theorem hexD_at (a : Int) (h0 : 0 ≤ a) (h1 : a < 16) : bt hexD a = figOf a := by
  have h : ∀ i : Fin 16, bt hexD ((i.val : Nat) : Int) = figOf ((i.val : Nat) : Int) := by decide
  obtain ⟨n, rfl⟩ := Int.eq_ofNat_of_zero_le h0
  exact h ⟨n, by omega⟩
theorem and_15 (a : Int) (h0 : 0 ≤ a) (h1 : a ≤ 255) : Go.bits .and .u8 a 15 = a % 16 := by
  have h := bits_mask .u8 8 (by decide) (fun m h0 h1 => by simp [IntKind.wrap, IntKind.bits, IntKind.signed]; omega) 4 (by omega) a (by omega) (by omega)
  rw [show ((2 : Int) ^ 4 - 1) = 15 from rfl] at h
  rw [h]
  rfl
theorem hex_same (s : ByteArray) (hs : s.size ≤ 20000) : ∀ (d k i : Nat) (L : List Int), d < k → i + d = s.size → L.length ≤ 2 * i → ∃ r, spec_Hex.l0 k s L (i : Int) = some (r, true) ∧ impl_Hex.l0 k s hexD L (i : Int) = some (r, true) ∧ r.size = L.length + 2 * d := by
  intro d
  induction d with
  | zero =>
    intro k i L hk hi hL
    obtain ⟨k, rfl⟩ : ∃ m, k = m + 1 := ⟨k - 1, by omega⟩
    simp only [spec_Hex.l0, impl_Hex.l0]
    rw [if_neg (by omega), if_neg (by omega)]
    exact ⟨_, rfl, rfl, by rw [strOfNums_size]; omega⟩
  | succ d ih =>
    intro k i L hk hi hL
    obtain ⟨k, rfl⟩ : ∃ m, k = m + 1 := ⟨k - 1, by omega⟩
    simp only [spec_Hex.l0, impl_Hex.l0]
    have hb := bt_range s (i : Int)
    have ew : wrap64 (bt s (i : Int)) = bt s (i : Int) := by unfold wrap64; omega
    have eq : Int.tdiv (bt s (i : Int)) 16 = bt s (i : Int) / 16 := Int.tdiv_eq_ediv_of_nonneg hb.1
    have er : Int.tmod (bt s (i : Int)) 16 = bt s (i : Int) % 16 := Int.tmod_eq_emod_of_nonneg hb.1
    have ew2 : wrap64 (bt s (i : Int) / 16) = bt s (i : Int) / 16 := by unfold wrap64; omega
    have hsz : (hexD.size : Int) = 16 := rfl
    rw [ew, eq, er, ew2, and_15 _ hb.1 (by omega), spec_l01Figure_eq _ (by omega) (by omega), spec_l01Figure_eq _ (by omega) (by omega), hexD_at _ (by omega) (by omega), hexD_at _ (by omega) (by omega), hsz]
    simp only [Option.bind_some]
    generalize hX : bt s (i : Int) = X at hb
    clear ew eq er ew2
    rw [if_pos (by first | omega | (simp only [List.length_cons, List.length_nil]; omega)), if_pos (by first | omega | (simp only [List.length_cons, List.length_nil]; omega)), if_pos (by first | omega | (simp only [List.length_cons, List.length_nil]; omega)), if_pos (by first | omega | (simp only [List.length_cons, List.length_nil]; omega)), if_pos (by first | omega | (simp only [List.length_cons, List.length_nil]; omega)), if_pos (by first | omega | (simp only [List.length_cons, List.length_nil]; omega)), if_pos (by first | omega | (simp only [List.length_cons, List.length_nil]; omega)), if_pos (by first | omega | (simp only [List.length_cons, List.length_nil]; omega)), if_pos (by first | omega | (simp only [List.length_cons, List.length_nil]; omega)), if_pos (by first | omega | (simp only [List.length_cons, List.length_nil]; omega)), wrap_nat' i (by omega)]
    have hl : (L ++ [figOf (X / 16), figOf (X % 16)]).length ≤ 2 * (i + 1) := by
      rw [List.length_append]
      show L.length + 2 ≤ 2 * (i + 1)
      omega
    obtain ⟨r, e1, e2, e3⟩ := ih k (i + 1) _ (by omega) (by omega) hl
    refine ⟨r, e1, e2, ?_⟩
    rw [e3, List.length_append]
    show L.length + 2 + 2 * d = _
    omega
theorem hexBoth (s : ByteArray) (hs : s.size ≤ 20000) : ∃ r, spec_Hex.f 20002 s = some (r, true) ∧ impl_Hex.f 20002 s = some (r, true) ∧ r.size = 2 * s.size := by
  obtain ⟨r, e1, e2, e3⟩ := hex_same s hs s.size 20002 0 [] (by omega) (by omega) (by simp)
  have e : wrap64 (2 * (s.size : Int)) = 2 * (s.size : Int) := by unfold wrap64; omega
  refine ⟨r, ?_, ?_, by simpa using e3⟩
  · unfold spec_Hex.f
    rw [if_neg (by omega)]
    exact e1
  · unfold impl_Hex.f
    rw [if_neg (by omega), e, if_pos (by omega), if_pos (by omega)]
    exact e2
set_option maxHeartbeats 8000000 in
set_option maxRecDepth 100000 in
theorem specDHex (s : ByteArray) (hs : s.size ≤ 10000000) (r : ByteArray) (hr : spec_Hex.f 20002 (digOf s) = some (r, true)) (w : World) : Calls Tryd.prog 10 #[.string s] w fun e w' => e = .returned (.string r) ∧ Below w.heap.size w w' := by
  have A1 : Aside0 (Calls Tryd.prog 22 #[.string s] w fun e w' => e = .returned (.string (digOf s)) ∧ Below w.heap.size w w') := ⟨specDigest s hs w⟩
  have A2 : Aside0 (∀ W, Calls Tryd.prog 28 #[.string (digOf s)] W fun e w' => e = .returned (.tuple #[.string r, .bool true]) ∧ Below W.heap.size W w') := ⟨fun W => spec_Hex.calls 20002 (digOf s) r true W hr⟩
  clear hr
  go_enter Tryd.func10, Tryd.ntmps10
  go_wp2_with (first
    | ((with_reducible refine gate_callee (f := 22) rfl ?_); refine goesL_ (some 7) rfl rfl Tryd.func22 (by kernel_rfl) rfl #[.string s] rfl (by (try simp only [List.map_toArray, List.map_cons, List.map_nil]); first | done | rfl) ?_; (with_reducible refine (A1.out).mono ?_); rintro e wa ⟨rfl, BA⟩; refine ⟨_, rfl, ?_⟩)
    | ((with_reducible refine gate_callee (f := 28) rfl ?_); refine goesL_ (some 8) rfl rfl Tryd.func28 (by kernel_rfl) rfl #[.string (digOf s)] rfl (by (try simp only [List.map_toArray, List.map_cons, List.map_nil]); first | done | rfl) ?_; (with_reducible refine (A2.out _).mono ?_); rintro e wb ⟨rfl, BB⟩; refine ⟨_, rfl, ?_⟩))
  go_ret
  exact ⟨rfl, grown_below (grown_trans (below_grown BA) (below_grown BB) (by simp))⟩
set_option maxHeartbeats 8000000 in
set_option maxRecDepth 100000 in
theorem implDHex (s : ByteArray) (hs : s.size ≤ 10000000) (r : ByteArray) (hr : impl_Hex.f 20002 (digOf s) = some (r, true)) (w : World) (hL : LaidW w) : Calls Tryd.prog 11 #[.string s] w fun e w' => e = .returned (.string r) ∧ Below w.heap.size w w' := by
  have A1 : Aside0 (Calls Tryd.prog 23 #[.string s] w fun e w' => e = .returned (.string (digOf s)) ∧ Below w.heap.size w w') := ⟨implDigest s hs w hL⟩
  have A2 : Aside0 (∀ W, Calls Tryd.prog 29 #[.string (digOf s)] W fun e w' => e = .returned (.tuple #[.string r, .bool true]) ∧ Below W.heap.size W w') := ⟨fun W => impl_Hex.calls 20002 (digOf s) r true W hr⟩
  clear hr
  go_enter Tryd.func11, Tryd.ntmps11
  go_wp2_with (first
    | ((with_reducible refine gate_callee (f := 23) rfl ?_); refine goesL_ (some 7) rfl rfl Tryd.func23 (by kernel_rfl) rfl #[.string s] rfl (by (try simp only [List.map_toArray, List.map_cons, List.map_nil]); first | done | rfl) ?_; (with_reducible refine (A1.out).mono ?_); rintro e wa ⟨rfl, BA⟩; refine ⟨_, rfl, ?_⟩)
    | ((with_reducible refine gate_callee (f := 29) rfl ?_); refine goesL_ (some 8) rfl rfl Tryd.func29 (by kernel_rfl) rfl #[.string (digOf s)] rfl (by (try simp only [List.map_toArray, List.map_cons, List.map_nil]); first | done | rfl) ?_; (with_reducible refine (A2.out _).mono ?_); rintro e wb ⟨rfl, BB⟩; refine ⟨_, rfl, ?_⟩))
  go_ret
  exact ⟨rfl, grown_below (grown_trans (below_grown BA) (below_grown BB) (by simp))⟩
set_option maxHeartbeats 8000000 in
set_option maxRecDepth 100000 in
theorem lawDH (s : ByteArray) (w : World) (hL : LaidW w) : Calls Tryd.prog 3 #[.string s] w fun e w' => e = .returned (.bool true) ∧ Below w.heap.size w w' := by
  by_cases c : (s.size : Int) > 1048576
  · have b0 : decide (1048576 < (s.size : Int)) = true := decide_eq_true c
    have b1 : decide (1048576 < s.size) = true := decide_eq_true (by omega)
    clear c
    go_enter Tryd.func3, Tryd.ntmps3
    go_wp2
    go_ret
    exact ⟨rfl, Below.refl _ _⟩
  · have b0 : decide (1048576 < (s.size : Int)) = false := decide_eq_false c
    have b1 : decide (1048576 < s.size) = false := decide_eq_false (by omega)
    have LW : Aside0 (LaidW w) := ⟨hL⟩
    obtain ⟨r, hr⟩ : ∃ r, Aside0 (spec_Hex.f 20002 (digOf s) = some (r, true) ∧ impl_Hex.f 20002 (digOf s) = some (r, true) ∧ r.size = 2 * (digOf s).size) := by
      obtain ⟨r, h⟩ := hexBoth (digOf s) (by rw [digOf_size]; omega)
      exact ⟨r, ⟨h⟩⟩
    clear c hL
    go_enter Tryd.func3, Tryd.ntmps3
    go_wp2_with (first
      | ((with_reducible refine gate_callee (f := 10) rfl ?_); refine goesL_ (some 9) rfl rfl Tryd.func10 (by kernel_rfl) rfl #[.string s] rfl (by (try simp only [List.map_toArray, List.map_cons, List.map_nil]); first | done | rfl) ?_; (with_reducible refine (specDHex s (by have := of_decide_eq_false b1; omega) r hr.out.1 _).mono ?_); rintro e wa ⟨rfl, BA⟩; refine ⟨_, rfl, ?_⟩)
      | ((with_reducible refine gate_callee (f := 11) rfl ?_); refine goesL_ (some 11) rfl rfl Tryd.func11 (by kernel_rfl) rfl #[.string s] rfl (by (try simp only [List.map_toArray, List.map_cons, List.map_nil]); first | done | rfl) ?_; (with_reducible refine (implDHex s (by have := of_decide_eq_false b1; omega) r hr.out.2.1 _ (LW.out.grown (below_grown BA) (by simp) (by simp))).mono ?_); rintro e wb ⟨rfl, BB⟩; refine ⟨_, rfl, ?_⟩))
    go_ret
    exact ⟨rfl, grown_below (grown_trans (below_grown BA) (below_grown BB) (by simp))⟩
set_option maxHeartbeats 8000000 in
set_option maxRecDepth 100000 in
theorem lawDP (s t : ByteArray) (w : World) (hL : LaidW w) : Calls Tryd.prog 8 #[.string s, .string t] w fun e w' => e = .returned (.bool true) ∧ Below w.heap.size w w' := by
  have LW : Aside0 (LaidW w) := ⟨hL⟩
  clear hL
  by_cases c : (s.size : Int) > 1048576
  · have b0 : decide (1048576 < (s.size : Int)) = true := decide_eq_true c
    have b1 : decide (1048576 < s.size) = true := decide_eq_true (by omega)
    clear c
    go_enter Tryd.func8, Tryd.ntmps8
    go_wp2
    go_ret
    exact ⟨rfl, Below.refl _ _⟩
  · have b0 : decide (1048576 < (s.size : Int)) = false := decide_eq_false c
    have b1 : decide (1048576 < s.size) = false := decide_eq_false (by omega)
    by_cases c2 : (t.size : Int) > 1048576
    · have b2 : decide (1048576 < (t.size : Int)) = true := decide_eq_true c2
      have b3 : decide (1048576 < t.size) = true := decide_eq_true (by omega)
      clear c c2
      go_enter Tryd.func8, Tryd.ntmps8
      go_wp2
      go_ret
      exact ⟨rfl, Below.refl _ _⟩
    · have b2 : decide (1048576 < (t.size : Int)) = false := decide_eq_false c2
      have b3 : decide (1048576 < t.size) = false := decide_eq_false (by omega)
      clear c c2
      go_enter Tryd.func8, Tryd.ntmps8
      go_wp2_with (first
        | ((with_reducible refine gate_callee (f := 24) rfl ?_); refine goesL_ (some 15) rfl rfl Tryd.func24 (by kernel_rfl) rfl #[.string s, .string t] rfl (by (try simp only [List.map_toArray, List.map_cons, List.map_nil]); first | done | rfl) ?_; (with_reducible refine (specPair s t (by have := of_decide_eq_false b1; omega) (by have := of_decide_eq_false b3; omega) _).mono ?_); rintro e wa ⟨rfl, BA⟩; refine ⟨_, rfl, ?_⟩)
        | ((with_reducible refine gate_callee (f := 25) rfl ?_); refine goesL_ (some 18) rfl rfl Tryd.func25 (by kernel_rfl) rfl #[.string s, .string t] rfl (by (try simp only [List.map_toArray, List.map_cons, List.map_nil]); first | done | rfl) ?_; (with_reducible refine (implPair s t (by have := of_decide_eq_false b1; omega) (by have := of_decide_eq_false b3; omega) _ (LW.out.grown (below_grown BA) (by simp) (by simp))).mono ?_); rintro e wb ⟨rfl, BB⟩; refine ⟨_, rfl, ?_⟩))
      go_ret
      exact ⟨rfl, grown_below (grown_trans (below_grown BA) (below_grown BB) (by simp))⟩
end Go.Proofs.YtakejfhfkjnhlaaDoor.KW
