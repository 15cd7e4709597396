/- Walks: a state loaded from its text. Conditions: none. -/
import Derived.Test.YtakejfhfkjnhlaaDoorKecA
set_option linter.unusedVariables false
set_option linter.unusedSimpArgs false
namespace Go.Proofs.YtakejfhfkjnhlaaDoor.KW
open Go.RowKit Go.Proofs.YtakejfhfkjnhlaaDoorW.PrintWords Go.Proofs.YtakejfhfkjnhlaaDoorW.PrintLast Go.Proofs.YtakejfhfkjnhlaaDoorW.PrintMore
open Go.Proofs.YtakejfhfkjnhlaaDoor.M Go.Proofs.YtakejfhfkjnhlaaDoor.PFnExactKeccakRound
def ldV (s : ByteArray) (i : Nat) : Int := ((wordN s (8 * i) : Nat) : Int)
theorem info38 : (Tryd.prog.info? 38).map (·.size) = some 25 := by kernel_rfl
theorem info46 : (Tryd.prog.info? 46).map (·.size) = some 25 := by kernel_rfl
theorem info42 : (Tryd.prog.info? 42).map (·.size) = some 25 := by kernel_rfl
theorem info44 : (Tryd.prog.info? 44).map (·.size) = some 24 := by kernel_rfl
theorem info65 : (Tryd.prog.info? 65).map (·.size) = some 5 := by kernel_rfl
set_option maxHeartbeats 8000000 in
set_option maxRecDepth 100000 in
theorem specLoad (s : ByteArray) (hs : s.size = 200) (w : World) : Calls Tryd.prog 33 #[.string s] w fun e w' => e = .returned (.agg (nums .u64 (loadL s)).toArray) ∧ Below w.heap.size w w' := by
  go_enter Tryd.func33, Tryd.ntmps33
  go_wp2_with (first
    | ((with_reducible refine gate_dst (N := 2) rfl ?_); refine A_new rfl (N := 2) rfl 38 .u64 (List.replicate 25 0) (by first | (go_simp; done) | (go_simp; rfl)) ?_; intro g2 w2 e2 B2 G2)
    | ((with_reducible refine gate_dst (N := 3) rfl ?_); refine A_new rfl (N := 3) rfl 38 .u64 (List.replicate 25 0) (by first | (go_simp; done) | (go_simp; rfl)) ?_; intro g3 w3 e3 B3 G3)
    | ((with_reducible refine gate_store (t := 38) (p := 3) rfl ?_); refine A_put rfl (.tmp 3) _ rfl 38 .u64 rfl g3 (List.replicate 25 0) (List.replicate 25 0) rfl rfl B3 (rfl) (info38) ?_; intro w4 B4 G4))
  have E2 := e2.out
  have E3 := e3.out
  have N23 : Aside0 (g2 ≠ g3) := ⟨by have := B2.lt; omega⟩
  have GE3 : Aside0 (w.heap.size ≤ g3) := ⟨by have := G2.size; omega⟩
  have GE2 : Aside0 (w.heap.size ≤ g2) := ⟨E2⟩
  have G0 : Aside0 (w.grownBy w4 none) := ⟨grown_trans (grown_trans G2 G3 (by simp)) G4 (fun k hk => by obtain rfl := Option.some.inj hk; exact Or.inl GE3.out)⟩
  have B0 : Aside0 (Blk w4 g2 38 .u64 (List.replicate 25 0)) := ⟨(B2.grown G3 (by simp)).grown G4 (by simpa using N23.out)⟩
  have BV : Aside0 (Blk w4 g3 38 .u64 (List.replicate 25 0)) := ⟨B4⟩
  clear E2 E3 e2 e3 B2 B3 B4 G2 G3 G4
  go_loopg [4] 25 (fun d v w' => ∃ (k : Nat) (i : Int), Aside0 (k + d = 25) ∧ Aside0 (i = k) ∧ v = .int .i64 i ∧ Aside0 (Blk w' g3 38 .u64 (bf id (ldV s) (List.replicate 25 0) k)) ∧ Aside0 (Blk w' g2 38 .u64 (List.replicate 25 0)) ∧ Aside0 (w.grownBy w' none))
  case atStart => exact ⟨0, 0, ⟨rfl⟩, ⟨rfl⟩, rfl, BV, B0, G0⟩
  case round =>
    clear B0 BV G0
    obtain ⟨k, i, HK, HI, rfl, HB3, HB2, HG⟩ := hrel
    have ei := HI.out
    have ek := HK.out
    by_cases c : i < 25
    · obtain ⟨j, hj⟩ : ∃ j : Int, j = 8 * i := ⟨_, rfl⟩
      have hjn : j = ((8 * k : Nat) : Int) := by omega
      have hjw : IntKind.i64.wrap (8 * i) = j := (i64_w _).trans (by rw [← hj]; unfold wrap64; omega)
      have hiw : IntKind.i64.wrap (i + 1) = i + 1 := (i64_w _).trans (by unfold wrap64; omega)
      have AC : Aside0 (∀ W, Calls Tryd.prog 52 #[.string s, .int .i64 j] W fun e w' => e = .returned (.int .u64 (ldV s k)) ∧ Drawn0 W w') := ⟨fun W => by rw [hjn]; exact specWord s (8 * k) (by omega) (by omega) W⟩
      have hl : (bf id (ldV s) (List.replicate 25 0) k).length = 25 := by rw [bf_length, List.length_replicate]
      have hx := HB3.out.cell i (by omega) (by rw [hl]; omega)
      have hf := HB3.out.frozen i.toNat
      have c0 : decide (i < 25) = true := decide_eq_true c
      have p0 : (0 ≤ i) = True := eq_true (by omega)
      have q0 : (i < 25) = True := eq_true c
      clear hj hjn ei ek c hl
      go_wp2_with (first
        | ((with_reducible refine gate_callee (f := 52) rfl ?_); refine goesL_ (some 14) rfl rfl Tryd.func52 (by kernel_rfl) rfl #[.string s, .int .i64 j] rfl (by (try simp only [List.map_toArray, List.map_cons, List.map_nil]); first | done | rfl) ?_; (with_reducible refine (AC.out _).mono ?_); rintro e w' ⟨rfl, ⟨nd, rfl⟩⟩; refine ⟨_, rfl, ?_⟩))
      have ei := HI.out
      have ek := HK.out
      have q0' := of_eq_true q0
      go_roundg (gk - 1)
      case measure => omega
      case rel =>
        refine ⟨k + 1, i + 1, ⟨by omega⟩, ⟨by omega⟩, rfl, ⟨?_⟩, ⟨?_⟩, ⟨?_⟩⟩
        · have h := (HB3.out.drewN nd).put i.toNat (ldV s k)
          rw [bf_step (p := id) (m := k) (by rw [ei]; simp) rfl] at h
          exact h
        · exact (HB2.out.drewN nd).far N23.out _
        · exact grown_set (grown_drewN HG.out nd) _ _ (Or.inl GE3.out)
    · have c0 : decide (i < 25) = false := decide_eq_false c
      have ek : k = 25 := by omega
      subst ek
      go_wp2_with (first
        | ((with_reducible refine gate_dst (N := 16) rfl ?_); refine A_get rfl (.tmp 3) 38 .u64 rfl g3 _ rfl HB3.out Tryd.underlying38 (by rw [bf_length, List.length_replicate]; exact info38) ?_)
        | ((with_reducible refine gate_store (t := 38) (p := 2) rfl ?_); refine A_put rfl (.tmp 2) _ rfl 38 .u64 rfl g2 (List.replicate 25 0) (loadL s) rfl rfl HB2.out (by rw [loadL_length]; rfl) (by rw [loadL_length]; exact info38) ?_; intro w5 B5 G5))
      refine bodyPost_ret (results_cell_row (p := 2) (ty := 38) Tryd.results33 _ w5 g2 38 _ (0, 0) _ rfl B5 Tryd.underlying38 rfl (by rw [info38]; simp [nums, loadL_length])) rfl ⟨rfl, ?_⟩
      exact grown_below (grown_trans HG.out G5 (fun k hk => by obtain rfl := Option.some.inj hk; exact Or.inl GE2.out))
set_option maxHeartbeats 8000000 in
set_option maxRecDepth 100000 in
theorem implLoad (s : ByteArray) (hs : s.size = 200) (w : World) : Calls Tryd.prog 36 #[.string s] w fun e w' => e = .returned (.agg (nums .u64 (loadL s)).toArray) ∧ Below w.heap.size w w' := by
  go_enter Tryd.func36, Tryd.ntmps36
  go_wp2_with (first
    | ((with_reducible refine gate_dst (N := 2) rfl ?_); refine A_new rfl (N := 2) rfl 46 .u64 (List.replicate 25 0) (by first | (go_simp; done) | (go_simp; rfl)) ?_; intro g2 w2 e2 B2 G2)
    | ((with_reducible refine gate_dst (N := 3) rfl ?_); refine A_new rfl (N := 3) rfl 46 .u64 (List.replicate 25 0) (by first | (go_simp; done) | (go_simp; rfl)) ?_; intro g3 w3 e3 B3 G3))
  have E2 := e2.out
  have E3 := e3.out
  have N23 : Aside0 (g2 ≠ g3) := ⟨by have := B2.lt; omega⟩
  have GE3 : Aside0 (w.heap.size ≤ g3) := ⟨by have := G2.size; omega⟩
  have GE2 : Aside0 (w.heap.size ≤ g2) := ⟨E2⟩
  have G0 : Aside0 (w.grownBy w3 none) := ⟨grown_trans G2 G3 (by simp)⟩
  have B0 : Aside0 (Blk w3 g2 46 .u64 (List.replicate 25 0)) := ⟨B2.grown G3 (by simp)⟩
  have BV : Aside0 (Blk w3 g3 46 .u64 (List.replicate 25 0)) := ⟨B3⟩
  clear E2 E3 e2 e3 B2 B3 G2 G3
  go_loopg [5] 25 (fun d v w' => ∃ (k : Nat) (i : Int), Aside0 (k + d = 25) ∧ Aside0 (i = k) ∧ v = .int .i64 i ∧ Aside0 (Blk w' g3 46 .u64 (bf id (ldV s) (List.replicate 25 0) k)) ∧ Aside0 (Blk w' g2 46 .u64 (List.replicate 25 0)) ∧ Aside0 (w.grownBy w' none))
  case atStart => exact ⟨0, 0, ⟨rfl⟩, ⟨rfl⟩, rfl, BV, B0, G0⟩
  case round =>
    clear B0 BV G0
    obtain ⟨k, i, HK, HI, rfl, HB3, HB2, HG⟩ := hrel
    have ei := HI.out
    have ek := HK.out
    by_cases c : i < 25
    · obtain ⟨j, hj⟩ : ∃ j : Int, j = 8 * i := ⟨_, rfl⟩
      have hjn : j = ((8 * k : Nat) : Int) := by omega
      have hjw : IntKind.i64.wrap (8 * i) = j := (i64_w _).trans (by rw [← hj]; unfold wrap64; omega)
      have hiw : IntKind.i64.wrap (i + 1) = i + 1 := (i64_w _).trans (by unfold wrap64; omega)
      have AC : Aside0 (∀ W, Calls Tryd.prog 48 #[.string s, .int .i64 j] W fun e w' => e = .returned (.int .u64 (ldV s k)) ∧ Drawn0 W w') := ⟨fun W => by rw [hjn]; exact implWord s (8 * k) (by omega) (by omega) W⟩
      have hl : (bf id (ldV s) (List.replicate 25 0) k).length = 25 := by rw [bf_length, List.length_replicate]
      have hx := HB3.out.cell i (by omega) (by rw [hl]; omega)
      have hf := HB3.out.frozen i.toNat
      have c0 : decide (i < 25) = true := decide_eq_true c
      have p0 : (0 ≤ i) = True := eq_true (by omega)
      have q0 : (i < 25) = True := eq_true c
      clear hj hjn ei ek c hl
      go_wp2_with (first
        | ((with_reducible refine gate_callee (f := 48) rfl ?_); refine goesL_ (some 12) rfl rfl Tryd.func48 (by kernel_rfl) rfl #[.string s, .int .i64 j] rfl (by (try simp only [List.map_toArray, List.map_cons, List.map_nil]); first | done | rfl) ?_; (with_reducible refine (AC.out _).mono ?_); rintro e w' ⟨rfl, ⟨nd, rfl⟩⟩; refine ⟨_, rfl, ?_⟩))
      have ei := HI.out
      have ek := HK.out
      have q0' := of_eq_true q0
      go_roundg (gk - 1)
      case measure => omega
      case rel =>
        refine ⟨k + 1, i + 1, ⟨by omega⟩, ⟨by omega⟩, rfl, ⟨?_⟩, ⟨?_⟩, ⟨?_⟩⟩
        · have h := (HB3.out.drewN nd).put i.toNat (ldV s k)
          rw [bf_step (p := id) (m := k) (by rw [ei]; simp) rfl] at h
          exact h
        · exact (HB2.out.drewN nd).far N23.out _
        · exact grown_set (grown_drewN HG.out nd) _ _ (Or.inl GE3.out)
    · have c0 : decide (i < 25) = false := decide_eq_false c
      have ek : k = 25 := by omega
      subst ek
      go_wp2_with (first
        | ((with_reducible refine gate_dst (N := 15) rfl ?_); refine A_get rfl (.tmp 3) 46 .u64 rfl g3 _ rfl HB3.out Tryd.underlying46 (by rw [bf_length, List.length_replicate]; exact info46) ?_)
        | ((with_reducible refine gate_store (t := 46) (p := 2) rfl ?_); refine A_put rfl (.tmp 2) _ rfl 46 .u64 rfl g2 (List.replicate 25 0) (loadL s) rfl rfl HB2.out (by rw [loadL_length]; rfl) (by rw [loadL_length]; exact info46) ?_; intro w5 B5 G5))
      refine bodyPost_ret (results_cell_row (p := 2) (ty := 46) Tryd.results36 _ w5 g2 46 _ (0, 0) _ rfl B5 Tryd.underlying46 rfl (by rw [info46]; simp [nums, loadL_length])) rfl ⟨rfl, ?_⟩
      exact grown_below (grown_trans HG.out G5 (fun k hk => by obtain rfl := Option.some.inj hk; exact Or.inl GE2.out))
end Go.Proofs.YtakejfhfkjnhlaaDoor.KW
