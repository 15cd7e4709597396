/- Walk: a round of the reference. Conditions: none. -/
import Derived.Test.YtakejfhfkjnhlaaDoorKecAD
set_option linter.unusedVariables false
set_option linter.unusedSimpArgs false
namespace Go.Proofs.YtakejfhfkjnhlaaDoor.KW
open Go.RowKit Go.Proofs.YtakejfhfkjnhlaaDoorW.PrintWords Go.Proofs.YtakejfhfkjnhlaaDoorW.PrintLast Go.Proofs.YtakejfhfkjnhlaaDoorW.PrintMore
open Go.Proofs.YtakejfhfkjnhlaaDoor.M Go.Proofs.YtakejfhfkjnhlaaDoor.PFnExactKeccakRound
theorem i64_at {x : Int} (h0 : 0 ≤ x) (h1 : x ≤ 1000) : IntKind.i64.wrap x = x := (i64_w _).trans (by unfold wrap64; omega)
theorem tmod5 {x : Int} (h0 : 0 ≤ x) : Int.tmod x 5 = x % 5 := Int.tmod_eq_emod_of_nonneg h0
theorem blk_drew {w : World} {b : Nat} {t : TypeId} {k : IntKind} {l : List Int} (h : Blk w b t k l) : Blk w.drew b t k l := h
theorem grown_drew {w w' : World} {row : Option Nat} (h : w.grownBy w' row) : w.grownBy w'.drew row := ⟨h.os, h.tape, h.output, h.size, h.block⟩
theorem turn_val (x : Int) (hx : W64 x) (k : Nat) (hk : k < 64) : spec_l03Turn.f x k = some (rotI x k) := by
  obtain ⟨n, rfl⟩ := Int.eq_ofNat_of_zero_le hx.1
  have h := hx.2
  unfold spec_l03Turn.f
  rw [if_pos (by omega), if_pos (by rw [u64_mod]; omega), rot_int n k (by omega) hk]
  rfl
theorem rot_val (x : Int) (hx : W64 x) (k : Nat) (hk : k < 64) : bits_RotateLeft64.f x k = some (rotI x k) := by
  obtain ⟨n, rfl⟩ := Int.eq_ofNat_of_zero_le hx.1
  have h := hx.2
  unfold bits_RotateLeft64.f
  rw [u64_id (k : Int) (by omega) (by omega), and_63 k (by omega), Nat.mod_eq_of_lt hk]
  rw [if_pos (by omega), if_pos (by rw [u64_mod]; omega), rot_int n k (by omega) hk]
  rfl
theorem specTurn (x : Int) (hx : W64 x) (k : Nat) (hk : k < 64) (j : Int) (hj : j = (k : Int)) (W : World) : Calls Tryd.prog 51 #[.int .u64 x, .int .u64 j] W fun e w' => e = .returned (.int .u64 (rotI x k)) ∧ ∃ m, w' = W.drewN m := by
  rw [hj]
  exact (spec_l03Turn.calls x k _ W (turn_val x hx k hk)).mono fun e w' h => ⟨h.1, h.2.out⟩
theorem implRot (x : Int) (hx : W64 x) (k : Nat) (hk : k < 64) (j : Int) (hj : j = (k : Int)) (W : World) : Calls Tryd.prog 47 #[.int .u64 x, .int .i64 j] W fun e w' => e = .returned (.int .u64 (rotI x k)) ∧ ∃ m, w' = W.drewN m := by
  rw [hj]
  exact (bits_RotateLeft64.calls x k _ W (rot_val x hx k hk)).mono fun e w' h => ⟨h.1, h.2.out⟩
def vS (l : List Int) (m : Nat) : Int := bV l (colL l) (swp m)
theorem bS_all (l : List Int) : bf pS (vS l) (List.replicate 25 0) 25 = bL l := bL_spec (bV l (colL l))
theorem vS_at (l : List Int) (x y : Nat) (hx : x < 5) (hy : y < 5) : vS l (5 * x + y) = rotI (Go.bits .xor .u64 (rd l ((x + 5 * y : Nat) : Int)) (dV (colL l) x)) (tAt (x + 5 * y)) := by
  unfold vS bV swp
  rw [show (5 * x + y) / 5 + 5 * ((5 * x + y) % 5) = x + 5 * y by omega, show (x + 5 * y) % 5 = x by omega]
theorem pS_at (x y : Nat) (hx : x < 5) (hy : y < 5) : pS (5 * x + y) = y + 5 * ((2 * x + 3 * y) % 5) := by
  unfold pS
  rw [show (5 * x + y) % 5 = y by omega, show (5 * x + y) / 5 = x by omega]
theorem chiV_at (b : List Int) (x y : Nat) (hx : x < 5) (hy : y < 5) : chiV b (5 * y + x) = Go.bits .xor .u64 (rd b ((x + 5 * y : Nat) : Int)) (Go.bits .and .u64 (Go.bits .xor .u64 18446744073709551615 (rd b (((x + 1) % 5 + 5 * y : Nat) : Int))) (rd b (((x + 2) % 5 + 5 * y : Nat) : Int))) := by
  unfold chiV
  rw [show (5 * y + x) % 5 = x by omega, show (5 * y + x) / 5 = y by omega, show 5 * y + x = x + 5 * y by omega]
set_option maxHeartbeats 8000000 in
set_option maxRecDepth 100000 in
theorem specRound (l : List Int) (hl : l.length = 25) (hW : AllW l) (rc : Int) (w : World) : Calls Tryd.prog 32 #[.agg (nums .u64 l).toArray, .agg (nums .u64 offL).toArray, .int .u64 rc] w fun e w' => e = .returned (.agg (nums .u64 (rndL l rc)).toArray) ∧ Below w.heap.size w w' := by
  go_enter Tryd.func32, Tryd.ntmps32
  go_wp2_with (first
    | ((with_reducible refine gate_dst (N := 3) rfl ?_); refine A_new rfl (N := 3) rfl 38 .u64 (l) (by first | (go_simp; done) | (go_simp; rfl)) ?_; intro g3 w3 e3 B3 G3)
    | ((with_reducible refine gate_dst (N := 4) rfl ?_); refine A_new rfl (N := 4) rfl 42 .u64 (offL) (by first | (go_simp; done) | (go_simp; rfl)) ?_; intro g4 w4 e4 B4 G4)
    | ((with_reducible refine gate_dst (N := 6) rfl ?_); refine A_new rfl (N := 6) rfl 38 .u64 (List.replicate 25 0) (by first | (go_simp; done) | (go_simp; rfl)) ?_; intro g6 w6 e6 B6 G6)
    | ((with_reducible refine gate_dst (N := 7) rfl ?_); refine A_new rfl (N := 7) rfl 65 .u64 (List.replicate 5 0) (by first | (go_simp; done) | (go_simp; rfl)) ?_; intro g7 w7 e7 B7 G7)
    | ((with_reducible refine gate_store (t := 65) (p := 7) rfl ?_); refine A_put rfl (.tmp 7) _ rfl 65 .u64 rfl g7 (List.replicate 5 0) (List.replicate 5 0) rfl rfl B7 (rfl) (info65) ?_; intro w8 B8 G8))
  have E3 := e3.out
  have E4 := e4.out
  have E6 := e6.out
  have E7 := e7.out
  have L3 := B3.lt
  have L4 := B4.lt
  have L6 := B6.lt
  have S3 := G3.size
  have S4 := G4.size
  have S6 := G6.size
  have S7 := G7.size
  have D : Aside0 (w.heap.size ≤ g3 ∧ g3 < g4 ∧ g4 < g6 ∧ g6 < g7) := ⟨by exact ⟨by omega, by omega, by omega, by omega⟩⟩
  have G0 : Aside0 (w.grownBy w8 none) := ⟨grown_trans (grown_trans (grown_trans (grown_trans (grown_trans G3 G4 (by simp)) G6 (by simp)) G7 (by simp)) G8 (fun k hk => by obtain rfl := Option.some.inj hk; exact Or.inl (by omega))) (grown_refl _ none) (by simp)⟩
  have X3 : Aside0 (Blk w8 g3 38 .u64 l) := ⟨(((B3.grown G4 (by simp)).grown G6 (by simp)).grown G7 (by simp)).grown G8 (by simp; omega)⟩
  have X4 : Aside0 (Blk w8 g4 42 .u64 offL) := ⟨((B4.grown G6 (by simp)).grown G7 (by simp)).grown G8 (by simp; omega)⟩
  have X6 : Aside0 (Blk w8 g6 38 .u64 (List.replicate 25 0)) := ⟨(B6.grown G7 (by simp)).grown G8 (by simp; omega)⟩
  have X7 : Aside0 (Blk w8 g7 65 .u64 (List.replicate 5 0)) := ⟨B8⟩
  clear E3 E4 E6 E7 L3 L4 L6 S3 S4 S6 S7 e3 e4 e6 e7 B3 B4 B6 B7 B8 G3 G4 G6 G7 G8
  go_loopg [8] 5 (fun d v w' => ∃ (k : Nat) (i : Int), Aside0 (k + d = 5) ∧ Aside0 (i = k) ∧ v = .int .i64 i ∧ Aside0 (Blk w' g7 65 .u64 (bf id (colV l) (List.replicate 5 0) k)) ∧ Aside0 (Blk w' g3 38 .u64 l) ∧ Aside0 (Blk w' g4 42 .u64 offL) ∧ Aside0 (Blk w' g6 38 .u64 (List.replicate 25 0)) ∧ Aside0 (w.grownBy w' none))
  case atStart => exact ⟨0, 0, ⟨rfl⟩, ⟨rfl⟩, rfl, X7, X3, X4, X6, G0⟩
  case round =>
    clear X3 X4 X6 X7 G0
    obtain ⟨k, i, HK, HI, rfl, HB7, HB3, HB4, HB6, HG⟩ := hrel
    have ei := HI.out
    have ek := HK.out
    by_cases c : i < 5
    · have hlen : (bf id (colV l) (List.replicate 5 0) k).length = 5 := by rw [bf_length, List.length_replicate]
      have hx0 := HB3.out.cell i (by omega) (by rw [hl]; omega)
      obtain ⟨i5, hi5⟩ : ∃ j : Int, j = i + 5 := ⟨_, rfl⟩
      have hw5 : IntKind.i64.wrap (i + 5) = i5 := (i64_at (by omega) (by omega)).trans hi5.symm
      have hx5 := HB3.out.cell i5 (by omega) (by rw [hl]; omega)
      have pa5 : (0 ≤ i5) = True := eq_true (by omega)
      have qa5 : (i5 < 25) = True := eq_true (by omega)
      obtain ⟨i10, hi10⟩ : ∃ j : Int, j = i + 10 := ⟨_, rfl⟩
      have hw10 : IntKind.i64.wrap (i + 10) = i10 := (i64_at (by omega) (by omega)).trans hi10.symm
      have hx10 := HB3.out.cell i10 (by omega) (by rw [hl]; omega)
      have pa10 : (0 ≤ i10) = True := eq_true (by omega)
      have qa10 : (i10 < 25) = True := eq_true (by omega)
      obtain ⟨i15, hi15⟩ : ∃ j : Int, j = i + 15 := ⟨_, rfl⟩
      have hw15 : IntKind.i64.wrap (i + 15) = i15 := (i64_at (by omega) (by omega)).trans hi15.symm
      have hx15 := HB3.out.cell i15 (by omega) (by rw [hl]; omega)
      have pa15 : (0 ≤ i15) = True := eq_true (by omega)
      have qa15 : (i15 < 25) = True := eq_true (by omega)
      obtain ⟨i20, hi20⟩ : ∃ j : Int, j = i + 20 := ⟨_, rfl⟩
      have hw20 : IntKind.i64.wrap (i + 20) = i20 := (i64_at (by omega) (by omega)).trans hi20.symm
      have hx20 := HB3.out.cell i20 (by omega) (by rw [hl]; omega)
      have pa20 : (0 ≤ i20) = True := eq_true (by omega)
      have qa20 : (i20 < 25) = True := eq_true (by omega)
      have hx := HB7.out.cell i (by omega) (by rw [hlen]; omega)
      have hf := HB7.out.frozen i.toNat
      have hiw : IntKind.i64.wrap (i + 1) = i + 1 := i64_at (by omega) (by omega)
      have hv : Aside0 (Go.bits .xor .u64 (Go.bits .xor .u64 (Go.bits .xor .u64 (Go.bits .xor .u64 (rd l i) (rd l i5)) (rd l i10)) (rd l i15)) (rd l i20) = colV l k) := ⟨by rw [hi5, hi10, hi15, hi20, ei]; rfl⟩
      have c0 : decide (i < 5) = true := decide_eq_true c
      have p0 : (0 ≤ i) = True := eq_true (by omega)
      have q0 : (i < 5) = True := eq_true c
      have q00 : (i < 25) = True := eq_true (by omega)
      clear hi5 hi10 hi15 hi20 ei ek c hlen
      go_wp2_with fail
      go_region
      go_wp2
      have ei := HI.out
      have ek := HK.out
      have q0' := of_eq_true q0
      go_roundg (gk - 1)
      case measure => omega
      case rel =>
        refine ⟨k + 1, i + 1, ⟨by omega⟩, ⟨by omega⟩, rfl, ⟨?_⟩, ⟨blk_drew (HB3.out.far (by have := D.out; show g3 ≠ g7; omega) _)⟩, ⟨blk_drew (HB4.out.far (by have := D.out; show g4 ≠ g7; omega) _)⟩, ⟨blk_drew (HB6.out.far (by have := D.out; show g6 ≠ g7; omega) _)⟩, ⟨grown_drew (grown_set HG.out _ _ (Or.inl (by have := D.out; show w.heap.size ≤ g7; omega)))⟩⟩
        rw [hv.out]
        have h := HB7.out.put i.toNat (colV l k)
        rw [bf_step (p := id) (m := k) (by rw [ei]; simp) rfl] at h
        exact blk_drew h
    · have c0 : decide (i < 5) = false := decide_eq_false c
      have ek : k = 5 := by omega
      subst ek
      have HC : Aside0 (Blk wr g7 65 .u64 (colL l)) := HB7
      clear HB7 HK HI ek c
      go_wp2_with (first
        | ((with_reducible refine gate_dst (N := 9) rfl ?_); refine A_new rfl (N := 9) rfl 38 .u64 (List.replicate 25 0) (by first | (go_simp; done) | (go_simp; rfl)) ?_; intro g9 w9 e9 B9 G9)
        | ((with_reducible refine gate_store (t := 38) (p := 9) rfl ?_); refine A_put rfl (.tmp 9) _ rfl 38 .u64 rfl g9 (List.replicate 25 0) (List.replicate 25 0) rfl rfl B9 (rfl) (info38) ?_; intro w10 B10 G10))
      have D9 : Aside0 (g7 < g9) := ⟨by have := e9.out; have := HC.out.lt; omega⟩
      have X9 : Aside0 (Blk w10 g9 38 .u64 (List.replicate 25 0)) := ⟨B10⟩
      have X3 : Aside0 (Blk w10 g3 38 .u64 l) := ⟨(HB3.out.grown G9 (by simp)).grown G10 (by have := D.out; have := D9.out; simp; omega)⟩
      have X4 : Aside0 (Blk w10 g4 42 .u64 offL) := ⟨(HB4.out.grown G9 (by simp)).grown G10 (by have := D.out; have := D9.out; simp; omega)⟩
      have X6 : Aside0 (Blk w10 g6 38 .u64 (List.replicate 25 0)) := ⟨(HB6.out.grown G9 (by simp)).grown G10 (by have := D.out; have := D9.out; simp; omega)⟩
      have X7 : Aside0 (Blk w10 g7 65 .u64 (colL l)) := ⟨(HC.out.grown G9 (by simp)).grown G10 (by have := D9.out; simp; omega)⟩
      have G0 : Aside0 (w.grownBy w10 none) := ⟨grown_trans (grown_trans HG.out G9 (by simp)) G10 (fun k hk => by obtain rfl := Option.some.inj hk; exact Or.inl (by have := D.out; have := D9.out; omega))⟩
      clear HB3 HB4 HB6 HC HG B9 B10 G9 G10 e9
      go_loopg [10] 5 (fun d v w' => ∃ (k : Nat) (i : Int), Aside0 (k + d = 5) ∧ Aside0 (i = k) ∧ v = .int .i64 i ∧ Aside0 (Blk w' g9 38 .u64 (bf pS (vS l) (List.replicate 25 0) (5 * k))) ∧ Aside0 (Blk w' g7 65 .u64 (colL l)) ∧ Aside0 (Blk w' g3 38 .u64 l) ∧ Aside0 (Blk w' g4 42 .u64 offL) ∧ Aside0 (Blk w' g6 38 .u64 (List.replicate 25 0)) ∧ Aside0 (w.grownBy w' none))
      case atStart => exact ⟨0, 0, ⟨rfl⟩, ⟨rfl⟩, rfl, X9, X7, X3, X4, X6, G0⟩
      case round =>
        clear X3 X4 X6 X7 X9 G0
        obtain ⟨x, i, HK, HI, rfl, HB9, HB7, HB3, HB4, HB6, HG⟩ := hrel
        obtain ⟨gk2, HG2⟩ : ∃ n, Aside0 (n = gk) := ⟨_, ⟨rfl⟩⟩
        have ei := HI.out
        have ek := HK.out
        by_cases c : i < 5
        · have hlc : (colL l).length = 5 := by rw [colL, bf_length, List.length_replicate]
          obtain ⟨a4, ha4⟩ : ∃ j : Int, j = ((x + 4 : Nat) : Int) := ⟨_, rfl⟩
          have hwa4 : IntKind.i64.wrap (i + 4) = a4 := (i64_at (by omega) (by omega)).trans (by omega)
          obtain ⟨j4, hj4⟩ : ∃ j : Int, j = (((x + 4) % 5 : Nat) : Int) := ⟨_, rfl⟩
          have hwj4 : Int.tmod a4 5 = j4 := (tmod5 (by omega)).trans (by omega)
          obtain ⟨a1, ha1⟩ : ∃ j : Int, j = ((x + 1 : Nat) : Int) := ⟨_, rfl⟩
          have hwa1 : IntKind.i64.wrap (i + 1) = a1 := (i64_at (by omega) (by omega)).trans (by omega)
          obtain ⟨j1, hj1⟩ : ∃ j : Int, j = (((x + 1) % 5 : Nat) : Int) := ⟨_, rfl⟩
          have hwj1 : Int.tmod a1 5 = j1 := (tmod5 (by omega)).trans (by omega)
          have paj4 : (0 ≤ j4) = True := eq_true (by omega)
          have qaj4 : (j4 < 5) = True := eq_true (by omega)
          have paj1 : (0 ≤ j1) = True := eq_true (by omega)
          have qaj1 : (j1 < 5) = True := eq_true (by omega)
          have hx4 := HB7.out.cell j4 (by omega) (by rw [hlc]; omega)
          have hx1 := HB7.out.cell j1 (by omega) (by rw [hlc]; omega)
          have AC : Aside0 (∀ W, Calls Tryd.prog 51 #[.int .u64 (rd (colL l) j1), .int .u64 1] W fun e w' => e = .returned (.int .u64 (rotI (rd (colL l) j1) 1)) ∧ ∃ m, w' = W.drewN m) := ⟨specTurn _ (AllW_col l _) 1 (by omega) 1 rfl⟩
          obtain ⟨dd, hdd⟩ : ∃ z : Int, Go.bits .xor .u64 (rd (colL l) j4) (rotI (rd (colL l) j1) 1) = z := ⟨_, rfl⟩
          have HD : Aside0 (dd = dV (colL l) x) := ⟨by rw [← hdd, hj4, hj1]; rfl⟩
          have c0 : decide (i < 5) = true := decide_eq_true c
          have HC5 := Aside0.mk c
          clear ha4 hj4 ha1 hj1 hlc ei ek c
          go_wp2_with fail
          go_quiet (first | exact Calls.quiet_of (AC.out _))
          go_wp2
          have Y9 : Aside0 (Blk (wr.drewN nq) g9 38 .u64 (bf pS (vS l) (List.replicate 25 0) (5 * x + 0))) := ⟨HB9.out.drewN nq⟩
          have Y7 : Aside0 (Blk (wr.drewN nq) g7 65 .u64 (colL l)) := ⟨HB7.out.drewN nq⟩
          have Y3 : Aside0 (Blk (wr.drewN nq) g3 38 .u64 l) := ⟨HB3.out.drewN nq⟩
          have Y4 : Aside0 (Blk (wr.drewN nq) g4 42 .u64 offL) := ⟨HB4.out.drewN nq⟩
          have Y6 : Aside0 (Blk (wr.drewN nq) g6 38 .u64 (List.replicate 25 0)) := ⟨HB6.out.drewN nq⟩
          have YG : Aside0 (w.grownBy (wr.drewN nq) none) := ⟨grown_drewN HG.out nq⟩
          clear HB9 HB7 HB3 HB4 HB6 HG hx4 hx1 AC hwa4 hwj4 hwa1 hwj1 paj4 qaj4 paj1 qaj1 hdd c0
          generalize wr.drewN nq = wq at Y9 Y7 Y3 Y4 Y6 YG ⊢
          go_loopg [12] 5 (fun d v w' => ∃ (y : Nat) (j : Int), Aside0 (y + d = 5) ∧ Aside0 (j = y) ∧ v = .int .i64 j ∧ Aside0 (Blk w' g9 38 .u64 (bf pS (vS l) (List.replicate 25 0) (5 * x + y))) ∧ Aside0 (Blk w' g7 65 .u64 (colL l)) ∧ Aside0 (Blk w' g3 38 .u64 l) ∧ Aside0 (Blk w' g4 42 .u64 offL) ∧ Aside0 (Blk w' g6 38 .u64 (List.replicate 25 0)) ∧ Aside0 (w.grownBy w' none))
          case atStart => exact ⟨0, 0, ⟨rfl⟩, ⟨rfl⟩, rfl, Y9, Y7, Y3, Y4, Y6, YG⟩
          case round =>
            clear Y9 Y7 Y3 Y4 Y6 YG
            obtain ⟨y, j, HKy, HJ, rfl, HB9, HB7, HB3, HB4, HB6, HG⟩ := hrel
            have ei := HI.out
            have ej := HJ.out
            have eky := HKy.out
            have hc5 := HC5.out
            by_cases c : j < 5
            · have hl9 : (bf pS (vS l) (List.replicate 25 0) (5 * x + y)).length = 25 := by rw [bf_length, List.length_replicate]
              obtain ⟨t5, ht5⟩ : ∃ j : Int, j = ((5 * y : Nat) : Int) := ⟨_, rfl⟩
              have hwt5 : IntKind.i64.wrap (5 * j) = t5 := (i64_at (by omega) (by omega)).trans (by omega)
              obtain ⟨m, hm⟩ : ∃ j : Int, j = ((x + 5 * y : Nat) : Int) := ⟨_, rfl⟩
              have hwm : IntKind.i64.wrap (i + t5) = m := (i64_at (by omega) (by omega)).trans (by omega)
              have pam : (0 ≤ m) = True := eq_true (by omega)
              have qam : (m < 25) = True := eq_true (by omega)
              obtain ⟨b2, hb2⟩ : ∃ j : Int, j = ((2 * x : Nat) : Int) := ⟨_, rfl⟩
              have hwb2 : IntKind.i64.wrap (2 * i) = b2 := (i64_at (by omega) (by omega)).trans (by omega)
              obtain ⟨b3, hb3⟩ : ∃ j : Int, j = ((3 * y : Nat) : Int) := ⟨_, rfl⟩
              have hwb3 : IntKind.i64.wrap (3 * j) = b3 := (i64_at (by omega) (by omega)).trans (by omega)
              obtain ⟨b5, hb5⟩ : ∃ j : Int, j = ((2 * x + 3 * y : Nat) : Int) := ⟨_, rfl⟩
              have hwb5 : IntKind.i64.wrap (b2 + b3) = b5 := (i64_at (by omega) (by omega)).trans (by omega)
              obtain ⟨r, hr⟩ : ∃ j : Int, j = (((2 * x + 3 * y) % 5 : Nat) : Int) := ⟨_, rfl⟩
              have hwr : Int.tmod b5 5 = r := (tmod5 (by omega)).trans (by omega)
              obtain ⟨s5, hs5⟩ : ∃ j : Int, j = ((5 * ((2 * x + 3 * y) % 5) : Nat) : Int) := ⟨_, rfl⟩
              have hws5 : IntKind.i64.wrap (5 * r) = s5 := (i64_at (by omega) (by omega)).trans (by omega)
              obtain ⟨p, hp⟩ : ∃ j : Int, j = ((y + 5 * ((2 * x + 3 * y) % 5) : Nat) : Int) := ⟨_, rfl⟩
              have hwp : IntKind.i64.wrap (j + s5) = p := (i64_at (by omega) (by omega)).trans (by omega)
              have pap : (0 ≤ p) = True := eq_true (by omega)
              have qap : (p < 25) = True := eq_true (by omega)
              have hxm := HB3.out.cell m (by omega) (by rw [hl]; omega)
              have hxo := HB4.out.cell m (by omega) (by show m < ((25 : Nat) : Int); omega)
              have hxp := HB9.out.cell p (by omega) (by rw [hl9]; omega)
              have hfp := HB9.out.frozen p.toNat
              have hiw : IntKind.i64.wrap (j + 1) = j + 1 := i64_at (by omega) (by omega)
              have hko : rd offL m = ((tAt (x + 5 * y) : Nat) : Int) := by rw [hm]; exact offL_at _
              have hwz : W64 (Go.bits .xor .u64 (rd l m) dd) := W64_bits _ _ _
              have HV : Aside0 (rotI (Go.bits .xor .u64 (rd l m) dd) (tAt (x + 5 * y)) = vS l (5 * x + y)) := ⟨by rw [HD.out, hm, vS_at l x y (by omega) (by omega)]⟩
              have HP : Aside0 (p.toNat = pS (5 * x + y)) := ⟨by rw [pS_at x y (by omega) (by omega)]; omega⟩
              obtain ⟨z, hz⟩ : ∃ z : Int, Go.bits .xor .u64 (rd l m) dd = z := ⟨_, rfl⟩
              obtain ⟨kk, hkk⟩ : ∃ kk : Int, rd offL m = kk := ⟨_, rfl⟩
              rw [hz] at HV hwz
              rw [hkk] at hko hxo
              have AC : Aside0 (∀ W, Calls Tryd.prog 51 #[.int .u64 z, .int .u64 kk] W fun e w' => e = .returned (.int .u64 (rotI z (tAt (x + 5 * y)))) ∧ ∃ m, w' = W.drewN m) := ⟨specTurn _ hwz _ (tAt_lt _) _ hko⟩
              have c0 : decide (j < 5) = true := decide_eq_true c
              by_cases ck : 0 < kk
              · have ck0 : decide (0 < kk) = true := decide_eq_true ck
                clear ht5 hm hb2 hb3 hb5 hr hs5 hp hkk hko hwz hl9 ei ej eky hc5 c ck
                go_wp2_with (first
                  | ((with_reducible refine gate_callee (f := 51) rfl ?_); refine goesL_ (some 86) rfl rfl Tryd.func51 (by kernel_rfl) rfl #[.int .u64 z, .int .u64 kk] rfl (by (try simp only [List.map_toArray, List.map_cons, List.map_nil]); first | done | rfl) ?_; (with_reducible refine (AC.out _).mono ?_); rintro e w' ⟨rfl, ⟨nd, rfl⟩⟩; refine ⟨_, rfl, ?_⟩))
                have ei := HI.out
                have ej := HJ.out
                have eky := HKy.out
                have cj := of_decide_eq_true c0
                go_roundg (gk - 1)
                case measure => omega
                case rel =>
                  refine ⟨y + 1, j + 1, ⟨by omega⟩, ⟨by omega⟩, rfl, ⟨?_⟩, ⟨(HB7.out.drewN nd).far (by have := D9.out; show g7 ≠ g9; omega) _⟩, ⟨(HB3.out.drewN nd).far (by have := D9.out; have := D.out; show g3 ≠ g9; omega) _⟩, ⟨(HB4.out.drewN nd).far (by have := D9.out; have := D.out; show g4 ≠ g9; omega) _⟩, ⟨(HB6.out.drewN nd).far (by have := D9.out; have := D.out; show g6 ≠ g9; omega) _⟩, ⟨grown_set (grown_drewN HG.out nd) _ _ (Or.inl (by have := D9.out; have := D.out; show w.heap.size ≤ g9; omega))⟩⟩
                  rw [HV.out]
                  have h := (HB9.out.drewN nd).put p.toNat (vS l (5 * x + y))
                  rw [bf_step (p := pS) (m := 5 * x + y) HP.out rfl] at h
                  exact h
              · have hk0 : tAt (x + 5 * y) = 0 := by omega
                rw [hk0, rotI_zero hwz] at HV
                have ck0 : decide (0 < kk) = false := decide_eq_false ck
                clear ht5 hm hb2 hb3 hb5 hr hs5 hp hkk hko hk0 hwz hl9 ei ej eky hc5 c ck AC
                go_wp2
                have ei := HI.out
                have ej := HJ.out
                have eky := HKy.out
                have cj := of_decide_eq_true c0
                go_roundg (gk - 1)
                case measure => omega
                case rel =>
                  refine ⟨y + 1, j + 1, ⟨by omega⟩, ⟨by omega⟩, rfl, ⟨?_⟩, ⟨HB7.out.far (by have := D9.out; show g7 ≠ g9; omega) _⟩, ⟨HB3.out.far (by have := D9.out; have := D.out; show g3 ≠ g9; omega) _⟩, ⟨HB4.out.far (by have := D9.out; have := D.out; show g4 ≠ g9; omega) _⟩, ⟨HB6.out.far (by have := D9.out; have := D.out; show g6 ≠ g9; omega) _⟩, ⟨grown_set HG.out _ _ (Or.inl (by have := D9.out; have := D.out; show w.heap.size ≤ g9; omega))⟩⟩
                  rw [HV.out]
                  have h := HB9.out.put p.toNat (vS l (5 * x + y))
                  rw [bf_step (p := pS) (m := 5 * x + y) HP.out rfl] at h
                  exact h
            · have c0 : decide (j < 5) = false := decide_eq_false c
              have ey : y = 5 := by omega
              subst ey
              have hiw : IntKind.i64.wrap (i + 1) = i + 1 := i64_at (by omega) (by omega)
              clear ei ej eky hc5 c
              go_wp2
              have ei := HI.out
              have ek := HK.out
              have hc5 := HC5.out
              have eg2 := HG2.out
              go_roundg (gk2 - 1)
              case measure => omega
              case rel => exact ⟨x + 1, i + 1, ⟨by omega⟩, ⟨by omega⟩, rfl, HB9, HB7, HB3, HB4, HB6, HG⟩
        · have c0 : decide (i < 5) = false := decide_eq_false c
          have ex : x = 5 := by omega
          subst ex
          have Y9 : Aside0 (Blk wr g9 38 .u64 (bL l)) := ⟨by rw [← bS_all]; exact HB9.out⟩
          have Y3 : Aside0 (Blk wr g3 38 .u64 (bf id (chiV (bL l)) l (5 * 0))) := HB3
          clear HB9 HB3 HB7 HB4 HK HI ei ek c
          go_wp2
          go_loopg [15] 5 (fun d v w' => ∃ (y : Nat) (j : Int), Aside0 (y + d = 5) ∧ Aside0 (j = y) ∧ v = .int .i64 j ∧ Aside0 (Blk w' g3 38 .u64 (bf id (chiV (bL l)) l (5 * y))) ∧ Aside0 (Blk w' g9 38 .u64 (bL l)) ∧ Aside0 (Blk w' g6 38 .u64 (List.replicate 25 0)) ∧ Aside0 (w.grownBy w' none))
          case atStart => exact ⟨0, 0, ⟨rfl⟩, ⟨rfl⟩, rfl, Y3, Y9, HB6, HG⟩
          case round =>
            clear Y3 Y9 HB6 HG
            obtain ⟨y, j, HKy, HJ, rfl, HB3, HB9, HB6, HG⟩ := hrel
            obtain ⟨gk3, HG3⟩ : ∃ n, Aside0 (n = gk) := ⟨_, ⟨rfl⟩⟩
            have ej := HJ.out
            have eky := HKy.out
            by_cases c : j < 5
            · have c0 : decide (j < 5) = true := decide_eq_true c
              have HC5 := Aside0.mk c
              clear ej eky c
              go_wp2
              go_loopg [16] 5 (fun d v w' => ∃ (x : Nat) (i : Int), Aside0 (x + d = 5) ∧ Aside0 (i = x) ∧ v = .int .i64 i ∧ Aside0 (Blk w' g3 38 .u64 (bf id (chiV (bL l)) l (5 * y + x))) ∧ Aside0 (Blk w' g9 38 .u64 (bL l)) ∧ Aside0 (Blk w' g6 38 .u64 (List.replicate 25 0)) ∧ Aside0 (w.grownBy w' none))
              case atStart => exact ⟨0, 0, ⟨rfl⟩, ⟨rfl⟩, rfl, HB3, HB9, HB6, HG⟩
              case round =>
                clear HB3 HB9 HB6 HG
                obtain ⟨x, i, HK, HI, rfl, HB3, HB9, HB6, HG⟩ := hrel
                have ei := HI.out
                have ek := HK.out
                have ej := HJ.out
                have hc5 := HC5.out
                by_cases c : i < 5
                · have hlb : (bL l).length = 25 := by rw [bL, bf_length, List.length_replicate]
                  have hl3 : (bf id (chiV (bL l)) l (5 * y + x)).length = 25 := by rw [bf_length, hl]
                  obtain ⟨t5, ht5⟩ : ∃ j : Int, j = ((5 * y : Nat) : Int) := ⟨_, rfl⟩
                  have hwt5 : IntKind.i64.wrap (5 * j) = t5 := (i64_at (by omega) (by omega)).trans (by omega)
                  obtain ⟨m, hm⟩ : ∃ j : Int, j = ((x + 5 * y : Nat) : Int) := ⟨_, rfl⟩
                  have hwm : IntKind.i64.wrap (i + t5) = m := (i64_at (by omega) (by omega)).trans (by omega)
                  have pam : (0 ≤ m) = True := eq_true (by omega)
                  have qam : (m < 25) = True := eq_true (by omega)
                  obtain ⟨a1, ha1⟩ : ∃ j : Int, j = ((x + 1 : Nat) : Int) := ⟨_, rfl⟩
                  have hwa1 : IntKind.i64.wrap (i + 1) = a1 := (i64_at (by omega) (by omega)).trans (by omega)
                  obtain ⟨r1, hr1⟩ : ∃ j : Int, j = (((x + 1) % 5 : Nat) : Int) := ⟨_, rfl⟩
                  have hwr1 : Int.tmod a1 5 = r1 := (tmod5 (by omega)).trans (by omega)
                  obtain ⟨m1, hm1⟩ : ∃ j : Int, j = (((x + 1) % 5 + 5 * y : Nat) : Int) := ⟨_, rfl⟩
                  have hwm1 : IntKind.i64.wrap (r1 + t5) = m1 := (i64_at (by omega) (by omega)).trans (by omega)
                  have pam1 : (0 ≤ m1) = True := eq_true (by omega)
                  have qam1 : (m1 < 25) = True := eq_true (by omega)
                  obtain ⟨a2, ha2⟩ : ∃ j : Int, j = ((x + 2 : Nat) : Int) := ⟨_, rfl⟩
                  have hwa2 : IntKind.i64.wrap (i + 2) = a2 := (i64_at (by omega) (by omega)).trans (by omega)
                  obtain ⟨r2, hr2⟩ : ∃ j : Int, j = (((x + 2) % 5 : Nat) : Int) := ⟨_, rfl⟩
                  have hwr2 : Int.tmod a2 5 = r2 := (tmod5 (by omega)).trans (by omega)
                  obtain ⟨m2, hm2⟩ : ∃ j : Int, j = (((x + 2) % 5 + 5 * y : Nat) : Int) := ⟨_, rfl⟩
                  have hwm2 : IntKind.i64.wrap (r2 + t5) = m2 := (i64_at (by omega) (by omega)).trans (by omega)
                  have pam2 : (0 ≤ m2) = True := eq_true (by omega)
                  have qam2 : (m2 < 25) = True := eq_true (by omega)
                  have hxm := HB9.out.cell m (by omega) (by rw [hlb]; omega)
                  have hxm1 := HB9.out.cell m1 (by omega) (by rw [hlb]; omega)
                  have hxm2 := HB9.out.cell m2 (by omega) (by rw [hlb]; omega)
                  have hx3 := HB3.out.cell m (by omega) (by rw [hl3]; omega)
                  have hf3 := HB3.out.frozen m.toNat
                  obtain ⟨z1, hz1⟩ : ∃ z : Int, Go.bits .xor .u64 (rd (bL l) m1) 18446744073709551615 = z := ⟨_, rfl⟩
                  have HV : Aside0 (Go.bits .xor .u64 (rd (bL l) m) (Go.bits .and .u64 z1 (rd (bL l) m2)) = chiV (bL l) (5 * y + x)) := ⟨by rw [← hz1, xor_comm64 (rd (bL l) m1), hm, hm1, hm2, chiV_at (bL l) x y (by omega) (by omega)]⟩
                  have HP : Aside0 (m.toNat = id (5 * y + x)) := ⟨by simp only [id]; omega⟩
                  have HA1 : Aside0 (a1 = ((x + 1 : Nat) : Int)) := ⟨ha1⟩
                  have c0 : decide (i < 5) = true := decide_eq_true c
                  clear ht5 hm ha1 hr1 hm1 ha2 hr2 hm2 hlb hl3 ei ek ej hc5 c
                  go_wp2_with fail
                  go_region
                  go_wp2
                  have ei := HI.out
                  have ek := HK.out
                  have ci := of_decide_eq_true c0
                  go_roundg (gk - 1)
                  case measure => omega
                  case rel =>
                    refine ⟨x + 1, a1, ⟨by omega⟩, HA1, rfl, ⟨?_⟩, ⟨blk_drew (HB9.out.far (by have := D9.out; have := D.out; show g9 ≠ g3; omega) _)⟩, ⟨blk_drew (HB6.out.far (by have := D.out; show g6 ≠ g3; omega) _)⟩, ⟨grown_drew (grown_set HG.out _ _ (Or.inl (by have := D.out; show w.heap.size ≤ g3; omega)))⟩⟩
                    rw [HV.out]
                    have h := HB3.out.put m.toNat (chiV (bL l) (5 * y + x))
                    rw [bf_step (p := id) (m := 5 * y + x) HP.out rfl] at h
                    exact blk_drew h
                · have c0 : decide (i < 5) = false := decide_eq_false c
                  have ex : x = 5 := by omega
                  subst ex
                  have hiw : IntKind.i64.wrap (j + 1) = j + 1 := i64_at (by omega) (by omega)
                  clear ei ek ej hc5 c
                  go_wp2
                  have ej := HJ.out
                  have eky := HKy.out
                  have hc5 := HC5.out
                  have eg3 := HG3.out
                  go_roundg (gk3 - 1)
                  case measure => omega
                  case rel => exact ⟨y + 1, j + 1, ⟨by omega⟩, ⟨by omega⟩, rfl, HB3, HB9, HB6, HG⟩
            · have c0 : decide (j < 5) = false := decide_eq_false c
              have ey : y = 5 := by omega
              subst ey
              have X3 : Aside0 (Blk wr g3 38 .u64 (chiL l)) := HB3
              have hlc : (chiL l).length = 25 := by rw [chiL_length, hl]
              have hx0 := X3.out.cell 0 (by omega) (by rw [hlc]; omega)
              simp only [Int.toNat_zero] at hx0
              have hf0 := X3.out.frozen 0
              clear HB3 HKy HJ ej eky c hlc
              go_wp2_with (first
                | ((with_reducible refine gate_dst (N := 141) rfl ?_); refine A_get rfl (.tmp 3) 38 .u64 rfl g3 _ rfl (X3.out.put 0 (Go.bits .xor .u64 (rd (chiL l) 0) rc)) Tryd.underlying38 (by rw [List.length_set, chiL_length, hl]; exact info38) ?_)
                | ((with_reducible refine gate_store (t := 38) (p := 6) rfl ?_); refine A_put rfl (.tmp 6) _ rfl 38 .u64 rfl g6 (List.replicate 25 0) (rndL l rc) rfl rfl (HB6.out.far (p := ⟨g3, 0, none⟩) (by have := D.out; show g6 ≠ g3; omega) (.int .u64 (Go.bits .xor .u64 (rd (chiL l) 0) rc))) (by rw [rndL_length, hl]; rfl) (by rw [rndL_length, hl]; exact info38) ?_; intro wz Bz Gz))
              refine bodyPost_ret (results_cell_row (p := 6) (ty := 38) Tryd.results32 _ wz g6 38 _ (0, 0) _ rfl Bz Tryd.underlying38 rfl (by rw [info38]; simp [nums, rndL_length, hl])) rfl ⟨rfl, ?_⟩
              exact grown_below (grown_trans (grown_set HG.out ⟨g3, 0, none⟩ _ (Or.inl (by have := D.out; show w.heap.size ≤ g3; omega))) Gz (fun k hk => by obtain rfl := Option.some.inj hk; exact Or.inl (by have := D.out; omega)))
end Go.Proofs.YtakejfhfkjnhlaaDoor.KW
