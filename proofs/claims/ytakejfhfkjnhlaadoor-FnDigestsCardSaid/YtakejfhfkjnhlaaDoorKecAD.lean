/- Own texts in one (a claim bears at most 60 files): KecA, KecB, KecC, KecD. Conditions: none. -/
import Derived.Test.YtakejfhfkjnhlaaDoorPFnExactKeccakRoundx1
import Derived.Test.YtakejfhfkjnhlaaDoorKecMath
import Derived.Test.YtakejfhfkjnhlaaDoorBlk
import Derived.BigRegion
import Derived.Test.YtakejfhfkjnhlaaDoorMakeCap
set_option linter.unusedVariables false
set_option linter.unusedSimpArgs false
namespace Go.Proofs.YtakejfhfkjnhlaaDoor.KW
open Go.RowKit Go.Proofs.YtakejfhfkjnhlaaDoorW.PrintWords Go.Proofs.YtakejfhfkjnhlaaDoorW.PrintLast Go.Proofs.YtakejfhfkjnhlaaDoorW.PrintMore
open Go.Proofs.YtakejfhfkjnhlaaDoor.M Go.Proofs.YtakejfhfkjnhlaaDoor.PFnExactKeccakRound
def wsL (s : ByteArray) (a : Nat) : List Nat := (List.range 8).map fun j => (bt s ((a + j : Nat) : Int)).toNat
theorem wsL_drop (s : ByteArray) (a j : Nat) (hj : j < 8) : (wsL s a).drop j = (bt s ((a + j : Nat) : Int)).toNat :: (wsL s a).drop (j + 1) := by
  have hl : j < (wsL s a).length := by simp [wsL]; omega
  rw [List.drop_eq_getElem_cons hl]
  simp [wsL]
theorem wsL_lt (s : ByteArray) (a : Nat) (b : Nat) (hb : b ∈ wsL s a) : b < 256 := by
  obtain ⟨j, _, rfl⟩ := List.mem_map.1 hb
  have := bt_range s ((a + j : Nat) : Int)
  omega
theorem leV_wsL (s : ByteArray) (a j : Nat) (hj : j < 8) : leV ((wsL s a).drop (j + 1)) < 72057594037927936 := by
  have h := leV_lt ((wsL s a).drop (j + 1)) (fun b hb => wsL_lt s a b (List.mem_of_mem_drop hb))
  rw [List.length_drop, show (wsL s a).length = 8 by simp [wsL]] at h
  have h2 : 256 ^ (8 - (j + 1)) ≤ 256 ^ 7 := Nat.pow_le_pow_right (by decide) (by omega)
  exact Nat.lt_of_lt_of_le h (by simpa using h2)
theorem wsL_step (s : ByteArray) (a j : Nat) (hj : j < 8) : Go.bits .or .u64 (IntKind.u64.wrap (((leV ((wsL s a).drop (j + 1)) : Nat) : Int) * 256)) (IntKind.u64.wrap (bt s ((a + j : Nat) : Int))) = ((leV ((wsL s a).drop j) : Nat) : Int) := by
  have hb := bt_range s ((a + j : Nat) : Int)
  have ho := or_byte (leV ((wsL s a).drop (j + 1))) (bt s ((a + j : Nat) : Int)).toNat (leV_wsL s a j hj) (by omega)
  rw [Int.toNat_of_nonneg hb.1] at ho
  rw [ho, wsL_drop s a j hj, leV]
  omega
theorem impl_wordAt_all (s : ByteArray) (a : Nat) (h : a + 8 ≤ s.size) (hs : s.size ≤ 1000000000) : ∀ (j k : Nat), j ≤ 8 → j < k → impl_wordAt.l0 k s a ((leV ((wsL s a).drop j) : Nat) : Int) ((j : Int) - 1) = some ((wordN s a : Nat) : Int) := by
  intro j
  induction j with
  | zero =>
    intro k _ hk
    obtain ⟨k, rfl⟩ : ∃ m, k = m + 1 := ⟨k - 1, by omega⟩
    simp only [impl_wordAt.l0]
    rw [if_neg (by omega), List.drop_zero]
    rfl
  | succ j ih =>
    intro k hj hk
    obtain ⟨k, rfl⟩ : ∃ m, k = m + 1 := ⟨k - 1, by omega⟩
    simp only [impl_wordAt.l0]
    have e : wrap64 ((a : Int) + (((j + 1 : Nat) : Int) - 1)) = ((a + j : Nat) : Int) := by unfold wrap64; omega
    have e2 : wrap64 ((((j + 1 : Nat) : Int) - 1) - 1) = (j : Int) - 1 := by unfold wrap64; omega
    rw [if_pos (by omega), e, e2, if_pos (by omega), if_pos (by omega), wsL_step s a j (by omega)]
    exact ih k (by omega) (by omega)
theorem impl_wordAt_val (s : ByteArray) (a : Nat) (h : a + 8 ≤ s.size) (hs : s.size ≤ 1000000000) : impl_wordAt.f 9 s a = some ((wordN s a : Nat) : Int) := by
  have h := impl_wordAt_all s a h hs 8 9 (by omega) (by omega)
  rw [List.drop_eq_nil_of_le (by simp [wsL])] at h
  exact h
theorem spec_l03Word_all (s : ByteArray) (a : Nat) (h : a + 8 ≤ s.size) (hs : s.size ≤ 1000000000) : ∀ (j k : Nat), j ≤ 8 → j < k → spec_l03Word.l0 k s a ((leV ((wsL s a).drop j) : Nat) : Int) ((j : Int) - 1) = some ((wordN s a : Nat) : Int) := by
  intro j
  induction j with
  | zero =>
    intro k _ hk
    obtain ⟨k, rfl⟩ : ∃ m, k = m + 1 := ⟨k - 1, by omega⟩
    simp only [spec_l03Word.l0]
    rw [if_neg (by omega), List.drop_zero]
    rfl
  | succ j ih =>
    intro k hj hk
    obtain ⟨k, rfl⟩ : ∃ m, k = m + 1 := ⟨k - 1, by omega⟩
    simp only [spec_l03Word.l0]
    have e : wrap64 ((a : Int) + (((j + 1 : Nat) : Int) - 1)) = ((a + j : Nat) : Int) := by unfold wrap64; omega
    have e2 : wrap64 ((((j + 1 : Nat) : Int) - 1) - 1) = (j : Int) - 1 := by unfold wrap64; omega
    rw [if_pos (by omega), e, e2, if_pos (by omega), if_pos (by omega), wsL_step s a j (by omega)]
    exact ih k (by omega) (by omega)
theorem spec_l03Word_val (s : ByteArray) (a : Nat) (h : a + 8 ≤ s.size) (hs : s.size ≤ 1000000000) : spec_l03Word.f 9 s a = some ((wordN s a : Nat) : Int) := by
  have h := spec_l03Word_all s a h hs 8 9 (by omega) (by omega)
  rw [List.drop_eq_nil_of_le (by simp [wsL])] at h
  exact h
theorem implWord (s : ByteArray) (a : Nat) (h : a + 8 ≤ s.size) (hs : s.size ≤ 1000000000) (w : World) : Calls Tryd.prog 48 #[.string s, .int .i64 (a : Int)] w fun e w' => e = .returned (.int .u64 ((wordN s a : Nat) : Int)) ∧ Drawn0 w w' :=
  impl_wordAt.calls 9 s a _ w (impl_wordAt_val s a h hs)
theorem specWord (s : ByteArray) (a : Nat) (h : a + 8 ≤ s.size) (hs : s.size ≤ 1000000000) (w : World) : Calls Tryd.prog 52 #[.string s, .int .i64 (a : Int)] w fun e w' => e = .returned (.int .u64 ((wordN s a : Nat) : Int)) ∧ Drawn0 w w' :=
  spec_l03Word.calls 9 s a _ w (spec_l03Word_val s a h hs)
end Go.Proofs.YtakejfhfkjnhlaaDoor.KW
set_option linter.unusedVariables false
set_option linter.unusedSimpArgs false
namespace Go.Proofs.YtakejfhfkjnhlaaDoor.KW
open Go.RowKit Go.Proofs.YtakejfhfkjnhlaaDoorW.PrintWords Go.Proofs.YtakejfhfkjnhlaaDoorW.PrintLast Go.Proofs.YtakejfhfkjnhlaaDoorW.PrintMore
open Go.Proofs.YtakejfhfkjnhlaaDoor.M Go.Proofs.YtakejfhfkjnhlaaDoor.PFnExactKeccakRound
def ldV (s : ByteArray) (i : Nat) : Int := ((wordN s (8 * i) : Nat) : Int)
theorem info38 : (Tryd.prog.info? 38).map (·.size) = some 25 := by kernel_rfl
theorem info46 : (Tryd.prog.info? 46).map (·.size) = some 25 := by kernel_rfl
theorem info42 : (Tryd.prog.info? 42).map (·.size) = some 25 := by kernel_rfl
theorem info44 : (Tryd.prog.info? 44).map (·.size) = some 24 := by kernel_rfl
theorem info65 : (Tryd.prog.info? 65).map (·.size) = some 5 := by kernel_rfl
set_option maxHeartbeats 8000000 in
set_option maxRecDepth 100000 in
theorem specLoad (s : ByteArray) (hs : s.size = 200) (w : World) : Calls Tryd.prog 33 #[.string s] w fun e w' => e = .returned (.agg (nums .u64 (loadL s)).toArray) ∧ Below w.heap.size w w' := by
  go_enter Tryd.func33, Tryd.ntmps33
  go_wp2_with (first
    | ((with_reducible refine gate_dst (N := 2) rfl ?_); refine A_new rfl (N := 2) rfl 38 .u64 (List.replicate 25 0) (by first | (go_simp; done) | (go_simp; rfl)) ?_; intro g2 w2 e2 B2 G2)
    | ((with_reducible refine gate_dst (N := 3) rfl ?_); refine A_new rfl (N := 3) rfl 38 .u64 (List.replicate 25 0) (by first | (go_simp; done) | (go_simp; rfl)) ?_; intro g3 w3 e3 B3 G3)
    | ((with_reducible refine gate_store (t := 38) (p := 3) rfl ?_); refine A_put rfl (.tmp 3) _ rfl 38 .u64 rfl g3 (List.replicate 25 0) (List.replicate 25 0) rfl rfl B3 (rfl) (info38) ?_; intro w4 B4 G4))
  have E2 := e2.out
  have E3 := e3.out
  have N23 : Aside0 (g2 ≠ g3) := ⟨by have := B2.lt; omega⟩
  have GE3 : Aside0 (w.heap.size ≤ g3) := ⟨by have := G2.size; omega⟩
  have GE2 : Aside0 (w.heap.size ≤ g2) := ⟨E2⟩
  have G0 : Aside0 (w.grownBy w4 none) := ⟨grown_trans (grown_trans G2 G3 (by simp)) G4 (fun k hk => by obtain rfl := Option.some.inj hk; exact Or.inl GE3.out)⟩
  have B0 : Aside0 (Blk w4 g2 38 .u64 (List.replicate 25 0)) := ⟨(B2.grown G3 (by simp)).grown G4 (by simpa using N23.out)⟩
  have BV : Aside0 (Blk w4 g3 38 .u64 (List.replicate 25 0)) := ⟨B4⟩
  clear E2 E3 e2 e3 B2 B3 B4 G2 G3 G4
  go_loopg [4] 25 (fun d v w' => ∃ (k : Nat) (i : Int), Aside0 (k + d = 25) ∧ Aside0 (i = k) ∧ v = .int .i64 i ∧ Aside0 (Blk w' g3 38 .u64 (bf id (ldV s) (List.replicate 25 0) k)) ∧ Aside0 (Blk w' g2 38 .u64 (List.replicate 25 0)) ∧ Aside0 (w.grownBy w' none))
  case atStart => exact ⟨0, 0, ⟨rfl⟩, ⟨rfl⟩, rfl, BV, B0, G0⟩
  case round =>
    clear B0 BV G0
    obtain ⟨k, i, HK, HI, rfl, HB3, HB2, HG⟩ := hrel
    have ei := HI.out
    have ek := HK.out
    by_cases c : i < 25
    · obtain ⟨j, hj⟩ : ∃ j : Int, j = 8 * i := ⟨_, rfl⟩
      have hjn : j = ((8 * k : Nat) : Int) := by omega
      have hjw : IntKind.i64.wrap (8 * i) = j := (i64_w _).trans (by rw [← hj]; unfold wrap64; omega)
      have hiw : IntKind.i64.wrap (i + 1) = i + 1 := (i64_w _).trans (by unfold wrap64; omega)
      have AC : Aside0 (∀ W, Calls Tryd.prog 52 #[.string s, .int .i64 j] W fun e w' => e = .returned (.int .u64 (ldV s k)) ∧ Drawn0 W w') := ⟨fun W => by rw [hjn]; exact specWord s (8 * k) (by omega) (by omega) W⟩
      have hl : (bf id (ldV s) (List.replicate 25 0) k).length = 25 := by rw [bf_length, List.length_replicate]
      have hx := HB3.out.cell i (by omega) (by rw [hl]; omega)
      have hf := HB3.out.frozen i.toNat
      have c0 : decide (i < 25) = true := decide_eq_true c
      have p0 : (0 ≤ i) = True := eq_true (by omega)
      have q0 : (i < 25) = True := eq_true c
      clear hj hjn ei ek c hl
      go_wp2_with (first
        | ((with_reducible refine gate_callee (f := 52) rfl ?_); refine goesL_ (some 14) rfl rfl Tryd.func52 (by kernel_rfl) rfl #[.string s, .int .i64 j] rfl (by (try simp only [List.map_toArray, List.map_cons, List.map_nil]); first | done | rfl) ?_; (with_reducible refine (AC.out _).mono ?_); rintro e w' ⟨rfl, ⟨nd, rfl⟩⟩; refine ⟨_, rfl, ?_⟩))
      have ei := HI.out
      have ek := HK.out
      have q0' := of_eq_true q0
      go_roundg (gk - 1)
      case measure => omega
      case rel =>
        refine ⟨k + 1, i + 1, ⟨by omega⟩, ⟨by omega⟩, rfl, ⟨?_⟩, ⟨?_⟩, ⟨?_⟩⟩
        · have h := (HB3.out.drewN nd).put i.toNat (ldV s k)
          rw [bf_step (p := id) (m := k) (by rw [ei]; simp) rfl] at h
          exact h
        · exact (HB2.out.drewN nd).far N23.out _
        · exact grown_set (grown_drewN HG.out nd) _ _ (Or.inl GE3.out)
    · have c0 : decide (i < 25) = false := decide_eq_false c
      have ek : k = 25 := by omega
      subst ek
      go_wp2_with (first
        | ((with_reducible refine gate_dst (N := 16) rfl ?_); refine A_get rfl (.tmp 3) 38 .u64 rfl g3 _ rfl HB3.out Tryd.underlying38 (by rw [bf_length, List.length_replicate]; exact info38) ?_)
        | ((with_reducible refine gate_store (t := 38) (p := 2) rfl ?_); refine A_put rfl (.tmp 2) _ rfl 38 .u64 rfl g2 (List.replicate 25 0) (loadL s) rfl rfl HB2.out (by rw [loadL_length]; rfl) (by rw [loadL_length]; exact info38) ?_; intro w5 B5 G5))
      refine bodyPost_ret (results_cell_row (p := 2) (ty := 38) Tryd.results33 _ w5 g2 38 _ (0, 0) _ rfl B5 Tryd.underlying38 rfl (by rw [info38]; simp [nums, loadL_length])) rfl ⟨rfl, ?_⟩
      exact grown_below (grown_trans HG.out G5 (fun k hk => by obtain rfl := Option.some.inj hk; exact Or.inl GE2.out))
set_option maxHeartbeats 8000000 in
set_option maxRecDepth 100000 in
theorem implLoad (s : ByteArray) (hs : s.size = 200) (w : World) : Calls Tryd.prog 36 #[.string s] w fun e w' => e = .returned (.agg (nums .u64 (loadL s)).toArray) ∧ Below w.heap.size w w' := by
  go_enter Tryd.func36, Tryd.ntmps36
  go_wp2_with (first
    | ((with_reducible refine gate_dst (N := 2) rfl ?_); refine A_new rfl (N := 2) rfl 46 .u64 (List.replicate 25 0) (by first | (go_simp; done) | (go_simp; rfl)) ?_; intro g2 w2 e2 B2 G2)
    | ((with_reducible refine gate_dst (N := 3) rfl ?_); refine A_new rfl (N := 3) rfl 46 .u64 (List.replicate 25 0) (by first | (go_simp; done) | (go_simp; rfl)) ?_; intro g3 w3 e3 B3 G3))
  have E2 := e2.out
  have E3 := e3.out
  have N23 : Aside0 (g2 ≠ g3) := ⟨by have := B2.lt; omega⟩
  have GE3 : Aside0 (w.heap.size ≤ g3) := ⟨by have := G2.size; omega⟩
  have GE2 : Aside0 (w.heap.size ≤ g2) := ⟨E2⟩
  have G0 : Aside0 (w.grownBy w3 none) := ⟨grown_trans G2 G3 (by simp)⟩
  have B0 : Aside0 (Blk w3 g2 46 .u64 (List.replicate 25 0)) := ⟨B2.grown G3 (by simp)⟩
  have BV : Aside0 (Blk w3 g3 46 .u64 (List.replicate 25 0)) := ⟨B3⟩
  clear E2 E3 e2 e3 B2 B3 G2 G3
  go_loopg [5] 25 (fun d v w' => ∃ (k : Nat) (i : Int), Aside0 (k + d = 25) ∧ Aside0 (i = k) ∧ v = .int .i64 i ∧ Aside0 (Blk w' g3 46 .u64 (bf id (ldV s) (List.replicate 25 0) k)) ∧ Aside0 (Blk w' g2 46 .u64 (List.replicate 25 0)) ∧ Aside0 (w.grownBy w' none))
  case atStart => exact ⟨0, 0, ⟨rfl⟩, ⟨rfl⟩, rfl, BV, B0, G0⟩
  case round =>
    clear B0 BV G0
    obtain ⟨k, i, HK, HI, rfl, HB3, HB2, HG⟩ := hrel
    have ei := HI.out
    have ek := HK.out
    by_cases c : i < 25
    · obtain ⟨j, hj⟩ : ∃ j : Int, j = 8 * i := ⟨_, rfl⟩
      have hjn : j = ((8 * k : Nat) : Int) := by omega
      have hjw : IntKind.i64.wrap (8 * i) = j := (i64_w _).trans (by rw [← hj]; unfold wrap64; omega)
      have hiw : IntKind.i64.wrap (i + 1) = i + 1 := (i64_w _).trans (by unfold wrap64; omega)
      have AC : Aside0 (∀ W, Calls Tryd.prog 48 #[.string s, .int .i64 j] W fun e w' => e = .returned (.int .u64 (ldV s k)) ∧ Drawn0 W w') := ⟨fun W => by rw [hjn]; exact implWord s (8 * k) (by omega) (by omega) W⟩
      have hl : (bf id (ldV s) (List.replicate 25 0) k).length = 25 := by rw [bf_length, List.length_replicate]
      have hx := HB3.out.cell i (by omega) (by rw [hl]; omega)
      have hf := HB3.out.frozen i.toNat
      have c0 : decide (i < 25) = true := decide_eq_true c
      have p0 : (0 ≤ i) = True := eq_true (by omega)
      have q0 : (i < 25) = True := eq_true c
      clear hj hjn ei ek c hl
      go_wp2_with (first
        | ((with_reducible refine gate_callee (f := 48) rfl ?_); refine goesL_ (some 12) rfl rfl Tryd.func48 (by kernel_rfl) rfl #[.string s, .int .i64 j] rfl (by (try simp only [List.map_toArray, List.map_cons, List.map_nil]); first | done | rfl) ?_; (with_reducible refine (AC.out _).mono ?_); rintro e w' ⟨rfl, ⟨nd, rfl⟩⟩; refine ⟨_, rfl, ?_⟩))
      have ei := HI.out
      have ek := HK.out
      have q0' := of_eq_true q0
      go_roundg (gk - 1)
      case measure => omega
      case rel =>
        refine ⟨k + 1, i + 1, ⟨by omega⟩, ⟨by omega⟩, rfl, ⟨?_⟩, ⟨?_⟩, ⟨?_⟩⟩
        · have h := (HB3.out.drewN nd).put i.toNat (ldV s k)
          rw [bf_step (p := id) (m := k) (by rw [ei]; simp) rfl] at h
          exact h
        · exact (HB2.out.drewN nd).far N23.out _
        · exact grown_set (grown_drewN HG.out nd) _ _ (Or.inl GE3.out)
    · have c0 : decide (i < 25) = false := decide_eq_false c
      have ek : k = 25 := by omega
      subst ek
      go_wp2_with (first
        | ((with_reducible refine gate_dst (N := 15) rfl ?_); refine A_get rfl (.tmp 3) 46 .u64 rfl g3 _ rfl HB3.out Tryd.underlying46 (by rw [bf_length, List.length_replicate]; exact info46) ?_)
        | ((with_reducible refine gate_store (t := 46) (p := 2) rfl ?_); refine A_put rfl (.tmp 2) _ rfl 46 .u64 rfl g2 (List.replicate 25 0) (loadL s) rfl rfl HB2.out (by rw [loadL_length]; rfl) (by rw [loadL_length]; exact info46) ?_; intro w5 B5 G5))
      refine bodyPost_ret (results_cell_row (p := 2) (ty := 46) Tryd.results36 _ w5 g2 46 _ (0, 0) _ rfl B5 Tryd.underlying46 rfl (by rw [info46]; simp [nums, loadL_length])) rfl ⟨rfl, ?_⟩
      exact grown_below (grown_trans HG.out G5 (fun k hk => by obtain rfl := Option.some.inj hk; exact Or.inl GE2.out))
end Go.Proofs.YtakejfhfkjnhlaaDoor.KW
set_option linter.unusedVariables false
set_option linter.unusedSimpArgs false
namespace Go.Proofs.YtakejfhfkjnhlaaDoor.KW
open Go.RowKit Go.Proofs.YtakejfhfkjnhlaaDoorW.PrintWords Go.Proofs.YtakejfhfkjnhlaaDoorW.PrintLast Go.Proofs.YtakejfhfkjnhlaaDoorW.PrintMore
open Go.Proofs.YtakejfhfkjnhlaaDoor.M Go.Proofs.YtakejfhfkjnhlaaDoor.PFnExactKeccakRound
theorem info65' : (Tryd.prog.info? 65).map (·.size) = some 5 := by kernel_rfl
theorem i5 : (Tryd.prog.info? 5).map (fun i => (i.zero, i.size, i.bytes)) = some (some (.int .u8 0), 1, 1) := by kernel_rfl
def offL : List Int := [0, 1, 62, 28, 27, 36, 44, 6, 55, 20, 3, 10, 43, 25, 39, 41, 45, 15, 21, 8, 18, 2, 61, 56, 14]
theorem offL_at (m : Nat) : rd offL (m : Int) = ((tAt m : Nat) : Int) := by
  rw [rd_nat, tAt, List.getD_eq_getElem?_getD, show offL = tN.map (fun (n : Nat) => (n : Int)) from rfl, List.getElem?_map]
  cases tN[m]? <;> rfl
def txV (l : List Int) (j : Nat) : Int := (((rd l ((j / 8 : Nat) : Int)).toNat / 256 ^ (j % 8) % 256 : Nat) : Int)
theorem txV_all (l : List Int) (hl : l.length = 25) : bf id (txV l) (List.replicate 200 0) 200 = textL l := by
  rw [bf_all, textL_range, hl]
  rfl
theorem shr_txt (x : Int) (hx : W64 x) (r : Nat) (hr : r < 8) (m : Int) (hm : m = 8 * (r : Int)) : x / 2 ^ m.toNat % 256 = ((x.toNat / 256 ^ r % 256 : Nat) : Int) := by
  subst hm
  have h0 := hx.1
  obtain ⟨n, rfl⟩ := Int.eq_ofNat_of_zero_le h0
  rw [Int.toNat_natCast, show (8 * (r : Int)).toNat = 8 * r by omega, show (256 : Nat) ^ r = 2 ^ (8 * r) by rw [Nat.pow_mul], Int.natCast_emod, Int.natCast_ediv, Int.natCast_pow]
  rfl
set_option maxHeartbeats 8000000 in
set_option maxRecDepth 100000 in
theorem specOff (w : World) : Calls Tryd.prog 34 #[] w fun e w' => e = .returned (.agg (nums .u64 offL).toArray) ∧ Below w.heap.size w w' := by
  go_enter Tryd.func34, Tryd.ntmps34
  go_wp2_with (first
    | ((with_reducible refine gate_dst (N := 0) rfl ?_); refine A_new rfl (N := 0) rfl 42 .u64 (List.replicate 25 0) (by first | (go_simp; done) | (go_simp; rfl)) ?_; intro g2 w2 e2 B2 G2)
    | ((with_reducible refine gate_store (t := 42) (p := 0) rfl ?_); refine A_put rfl (.tmp 0) _ rfl 42 .u64 rfl g2 (List.replicate 25 0) (offL) rfl rfl B2 (rfl) (info42) ?_; intro w3 B3 G3))
  refine bodyPost_ret (results_cell_row (p := 0) (ty := 42) Tryd.results34 _ w3 g2 42 _ (0, 0) _ rfl B3 Tryd.underlying42 rfl (by rw [info42]; rfl)) rfl ⟨rfl, ?_⟩
  exact grown_below (grown_trans G2 G3 (fun k hk => by obtain rfl := Option.some.inj hk; exact Or.inl e2.out))
set_option maxHeartbeats 8000000 in
set_option maxRecDepth 100000 in
theorem specRcs (w : World) : Calls Tryd.prog 35 #[] w fun e w' => e = .returned (.agg (nums .u64 rcL).toArray) ∧ Below w.heap.size w w' := by
  go_enter Tryd.func35, Tryd.ntmps35
  go_wp2_with (first
    | ((with_reducible refine gate_dst (N := 0) rfl ?_); refine A_new rfl (N := 0) rfl 44 .u64 (List.replicate 24 0) (by first | (go_simp; done) | (go_simp; rfl)) ?_; intro g2 w2 e2 B2 G2)
    | ((with_reducible refine gate_store (t := 44) (p := 0) rfl ?_); refine A_put rfl (.tmp 0) _ rfl 44 .u64 rfl g2 (List.replicate 24 0) (rcL) rfl rfl B2 (rfl) (info44) ?_; intro w3 B3 G3))
  refine bodyPost_ret (results_cell_row (p := 0) (ty := 44) Tryd.results35 _ w3 g2 44 _ (0, 0) _ rfl B3 Tryd.underlying44 rfl (by rw [info44]; rfl)) rfl ⟨rfl, ?_⟩
  exact grown_below (grown_trans G2 G3 (fun k hk => by obtain rfl := Option.some.inj hk; exact Or.inl e2.out))
set_option maxHeartbeats 8000000 in
set_option maxRecDepth 100000 in
theorem specText (l : List Int) (hl : l.length = 25) (hW : AllW l) (w : World) : Calls Tryd.prog 31 #[.agg (nums .u64 l).toArray] w fun e w' => e = .returned (.string (strOfNums (textL l))) ∧ Below w.heap.size w w' := by
  go_enter Tryd.func31, Tryd.ntmps31
  go_wp2_with (first
    | ((with_reducible refine gate_dst (N := 1) rfl ?_); refine A_new rfl (N := 1) rfl 38 .u64 (l) (by first | (go_simp; done) | (go_simp; rfl)) ?_; intro g2 w2 e2 B2 G2)
    | ((with_reducible refine gate_dst (N := 5) rfl ?_); refine A_make rfl (N := 5) rfl 26 5 _ _ rfl .u8 1 200 rfl rfl Tryd.underlying26 i5 (by omega) (by omega) ?_; intro g3 w3 e3 B3 G3))
  have E2 := e2.out
  have E3 := e3.out
  have N23 : Aside0 (g2 ≠ g3) := ⟨by have := B2.lt; omega⟩
  have GE3 : Aside0 (w.heap.size ≤ g3) := ⟨by have := G2.size; omega⟩
  have G0 : Aside0 (w.grownBy w3 none) := ⟨grown_trans G2 G3 (by simp)⟩
  have B0 : Aside0 (Blk w3 g2 38 .u64 l) := ⟨B2.grown G3 (by simp)⟩
  have BV : Aside0 (Blk w3 g3 5 .u8 (List.replicate 200 0)) := ⟨B3⟩
  clear E2 E3 e2 e3 B2 B3 G2 G3
  go_loopg [4] 200 (fun d v w' => ∃ (k : Nat) (i : Int), Aside0 (k + d = 200) ∧ Aside0 (i = k) ∧ v = .int .i64 i ∧ Aside0 (Blk w' g3 5 .u8 (bf id (txV l) (List.replicate 200 0) k)) ∧ Aside0 (Blk w' g2 38 .u64 l) ∧ Aside0 (w.grownBy w' none))
  case atStart => exact ⟨0, 0, ⟨rfl⟩, ⟨rfl⟩, rfl, BV, B0, G0⟩
  case round =>
    clear B0 BV G0
    obtain ⟨k, i, HK, HI, rfl, HB3, HB2, HG⟩ := hrel
    have ei := HI.out
    have ek := HK.out
    by_cases c : i < 200
    · obtain ⟨q, hq⟩ : ∃ q : Int, q = ((k / 8 : Nat) : Int) := ⟨_, rfl⟩
      obtain ⟨r, hr⟩ : ∃ r : Int, r = ((k % 8 : Nat) : Int) := ⟨_, rfl⟩
      obtain ⟨m, hm⟩ : ∃ m : Int, m = 8 * r := ⟨_, rfl⟩
      have hq1 : Int.tdiv i 8 = q := by rw [Int.tdiv_eq_ediv_of_nonneg (by omega)]; omega
      have hq3 : i / 8 = q := by omega
      have hq2 : IntKind.i64.wrap q = q := (i64_w _).trans (by unfold wrap64; omega)
      have hr1 : Int.tmod i 8 = r := by rw [Int.tmod_eq_emod_of_nonneg (by omega)]; omega
      have hr2 : IntKind.u64.wrap r = r := u64_id _ (by omega) (by omega)
      have hm2 : IntKind.u64.wrap (8 * r) = m := by rw [← hm]; exact u64_id _ (by omega) (by omega)
      have hm3 : min m.toNat 64 = m.toNat := by omega
      have hiw : IntKind.i64.wrap (i + 1) = i + 1 := (i64_w _).trans (by unfold wrap64; omega)
      have hlen : (bf id (txV l) (List.replicate 200 0) k).length = 200 := by rw [bf_length, List.length_replicate]
      have hx := HB3.out.cell i (by omega) (by rw [hlen]; omega)
      have hf := HB3.out.frozen i.toNat
      have hx2 := HB2.out.cell q (by omega) (by rw [hl]; omega)
      have hv : rd l q / 2 ^ m.toNat % 256 = txV l k := by
        rw [shr_txt (rd l q) (hW q) (k % 8) (by omega) m (by omega), hq]
        rfl
      have c0 : decide (i < 200) = true := decide_eq_true c
      have p0 : (0 ≤ i) = True := eq_true (by omega)
      have q0 : (i < 200) = True := eq_true c
      have p1 : (0 ≤ q) = True := eq_true (by omega)
      have q1 : (q < 25) = True := eq_true (by omega)
      have p2 : (0 ≤ m) = True := eq_true (by omega)
      have q2 : (m ≤ 64) = True := eq_true (by omega)
      clear hq hr hm ei ek c hlen
      go_wp2
      have ei := HI.out
      have ek := HK.out
      have q0' := of_eq_true q0
      go_roundg (gk - 1)
      case measure => omega
      case rel =>
        refine ⟨k + 1, i + 1, ⟨by omega⟩, ⟨by omega⟩, rfl, ⟨?_⟩, ⟨?_⟩, ⟨?_⟩⟩
        · have h := (HB3.out).put i.toNat (txV l k)
          rw [bf_step (p := id) (m := k) (by rw [ei]; simp) rfl] at h
          exact h
        · exact (HB2.out).far N23.out _
        · exact grown_set (HG.out) _ _ (Or.inl GE3.out)
    · have c0 : decide (i < 200) = false := decide_eq_false c
      have ek : k = 200 := by omega
      subst ek
      have hcv := Blk_string (P := Tryd.prog) Tryd.underlying26 Tryd.underlying5 Tryd.underlying9 HB3.out (by rw [bf_length, List.length_replicate]) (by omega)
      rw [txV_all l hl] at hcv
      clear HI HK ek c
      go_wp2
      go_ret
      exact ⟨rfl, grown_below HG.out⟩
end Go.Proofs.YtakejfhfkjnhlaaDoor.KW
set_option linter.unusedVariables false
set_option linter.unusedSimpArgs false
namespace Go.Proofs.YtakejfhfkjnhlaaDoor.KW
open Go.RowKit Go.Proofs.YtakejfhfkjnhlaaDoorW.PrintWords Go.Proofs.YtakejfhfkjnhlaaDoorW.PrintLast Go.Proofs.YtakejfhfkjnhlaaDoorW.PrintMore
open Go.Proofs.YtakejfhfkjnhlaaDoor.M Go.Proofs.YtakejfhfkjnhlaaDoor.PFnExactKeccakRound
theorem impl_wordBytes_l0 : ∀ (d k x : Nat) (l : List Int), d ≤ 8 → d < k → l.length + d ≤ 1000 → impl_wordBytes.l0 k l x ((8 - d : Nat) : Int) = some (l ++ (leB d x).map fun (b : Nat) => (b : Int)) := by
  intro d
  induction d with
  | zero =>
    intro k x l _ hk _
    obtain ⟨k, rfl⟩ : ∃ m, k = m + 1 := ⟨k - 1, by omega⟩
    simp only [impl_wordBytes.l0]
    rw [if_neg (by omega)]
    simp [leB]
  | succ d ih =>
    intro k x l hd hk hl
    obtain ⟨k, rfl⟩ : ∃ m, k = m + 1 := ⟨k - 1, by omega⟩
    simp only [impl_wordBytes.l0]
    rw [if_pos (by omega), if_pos (by omega), wrap_nat' _ (by omega), show 8 - (d + 1) + 1 = 8 - d by omega, show (x : Int) / 256 = ((x / 256 : Nat) : Int) by omega]
    rw [ih k (x / 256) _ (by omega) (by omega) (by simp; omega)]
    simp [leB]
theorem textL_length (l : List Int) : (textL l).length = 8 * l.length := by rw [textL_range]; simp
theorem textL_take (l : List Int) (k : Nat) (hk : k < l.length) : textL (l.take (k + 1)) = textL (l.take k) ++ (leB 8 (rd l (k : Int)).toNat).map fun (b : Nat) => (b : Int) := by
  unfold textL
  rw [List.take_add_one, List.flatMap_append, rd_nat, List.getElem?_eq_getElem hk]
  simp
theorem wordBytes_val (l : List Int) (hW : AllW l) (k : Nat) (hk : k < l.length) (hl : l.length ≤ 25) : impl_wordBytes.f 9 (textL (l.take k)) (rd l (k : Int)) = some (textL (l.take (k + 1))) := by
  have h0 := hW (k : Int)
  have h := impl_wordBytes_l0 8 9 (rd l (k : Int)).toNat (textL (l.take k)) (by omega) (by omega) (by rw [textL_length, List.length_take]; omega)
  rw [Int.toNat_of_nonneg h0.1] at h
  rw [textL_take l k hk]
  exact h
set_option maxHeartbeats 8000000 in
set_option maxRecDepth 100000 in
theorem implText (l : List Int) (hl : l.length = 25) (hW : AllW l) (g : Nat) (w : World) (hb : Blk w g 46 .u64 l) : Calls Tryd.prog 38 #[.pointer (some ⟨g, 0, none⟩)] w fun e w' => e = .returned (.string (strOfNums (textL l))) ∧ Below w.heap.size w w' := by
  have hlt := Aside0.mk hb.lt
  go_enter Tryd.func38, Tryd.ntmps38
  go_wp2_with (first
    | ((with_reducible refine gate_dst (N := 6) rfl ?_); refine R_makecap0 (Kd.int .u8) (w0 := w) w.heap.size 5 rfl (N := 6) rfl 26 _ _ rfl 200 rfl rfl Tryd.underlying26 (.int .u8 0) 1 i5 rfl (by decide) (ok := fun _ => True) trivial (by omega) (by decide) (Below.refl _ _) (Nat.le_refl _) ?_; intro v6 w6 ho6 hb6 hg6))
  have HO := Aside0.mk ho6
  have HB := Aside0.mk hb6
  clear ho6 hb6 hg6
  go_loopg [3, 8] 25 (fun d v3 v8 w' => ∃ (k : Nat) (i : Int), Aside0 (k + d = 25) ∧ Aside0 (i = k) ∧ v8 = .int .i64 i ∧ Aside0 (Kd.R (Kd.int .u8) 5 w' w.heap.size (fun _ => True) v3 (textL (l.take k))) ∧ Aside0 (Below w.heap.size w w'))
  case atStart => exact ⟨0, 0, ⟨rfl⟩, ⟨rfl⟩, rfl, by rw [List.take_zero]; exact HO, HB⟩
  case round =>
    clear HO HB
    obtain ⟨k, i, HK, HI, rfl, HO, HB⟩ := hrel
    have ei := HI.out
    have ek := HK.out
    by_cases c : i < 25
    · have hiw : IntKind.i64.wrap (i + 1) = i + 1 := (i64_w _).trans (by unfold wrap64; omega)
      have hbk : Blk wr g 46 .u64 l := (HB.out.block g hlt.out).trans hb
      have hx := hbk.cell i (by omega) (by rw [hl]; omega)
      obtain ⟨x, hxx⟩ : ∃ x : Int, x = rd l i := ⟨_, rfl⟩
      rw [← hxx] at hx
      have AC : Aside0 (impl_wordBytes.f 9 (textL (l.take k)) x = some (textL (l.take (k + 1)))) := ⟨by rw [hxx, ei]; exact wordBytes_val l hW k (by omega) (by omega)⟩
      have c0 : decide (i < 25) = true := decide_eq_true c
      have p0 : (0 ≤ i) = True := eq_true (by omega)
      have q0 : (i < 25) = True := eq_true c
      clear hxx hbk ei ek c
      go_wp2_with (first
        | ((with_reducible refine gate_callee (f := 46) rfl ?_); refine goesL_ (some 15) rfl rfl Tryd.func46 (by kernel_rfl) rfl #[u3, .int .u64 x] rfl (by (try simp only [List.map_toArray, List.map_cons, List.map_nil]); first | done | rfl) ?_; (refine (impl_wordBytes.calls 9 (fun _ => True) u3 (textL (l.take k)) x _ w _ HB.out HO.out AC.out).mono ?_); rintro e w9 ⟨v114, rfl, ho0, hb9, hkp⟩; refine ⟨_, rfl, ?_⟩))
      have ei := HI.out
      have ek := HK.out
      have q0' := of_eq_true q0
      go_roundg (gk - 1)
      case measure => omega
      case rel => exact ⟨k + 1, i + 1, ⟨by omega⟩, ⟨by omega⟩, rfl, ⟨Kd.R_mono ho0 (fun _ _ => trivial)⟩, ⟨hb9⟩⟩
    · have c0 : decide (i < 25) = false := decide_eq_false c
      have ek : k = 25 := by omega
      subst ek
      have hcv := own_string (P := Tryd.prog) Tryd.underlying26 Tryd.underlying5 Tryd.underlying9 (Kd.own_of_R HO.out)
      rw [List.take_of_length_le (by omega)] at hcv
      clear HI HK ek c
      go_wp2
      go_ret
      exact ⟨rfl, HB.out⟩
end Go.Proofs.YtakejfhfkjnhlaaDoor.KW
