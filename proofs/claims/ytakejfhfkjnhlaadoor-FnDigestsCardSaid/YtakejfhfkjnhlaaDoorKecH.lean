/- Walk: a round of the program; its two tables are laid. Conditions: none. -/
import Derived.Test.YtakejfhfkjnhlaaDoorKecG
import Derived.StillTailTactics
set_option linter.unusedVariables false
set_option linter.unusedSimpArgs false
namespace Go.Proofs.YtakejfhfkjnhlaaDoor.KW
open Go.RowKit Go.Proofs.YtakejfhfkjnhlaaDoorW.PrintWords Go.Proofs.YtakejfhfkjnhlaaDoorW.PrintLast Go.Proofs.YtakejfhfkjnhlaaDoorW.PrintMore
open Go.Proofs.YtakejfhfkjnhlaaDoor.M Go.Proofs.YtakejfhfkjnhlaaDoor.PFnExactKeccakRound
set_option maxHeartbeats 8000000 in
set_option maxRecDepth 100000 in
theorem implRotS (x : Int) (hx : W64 x) (k : Nat) (hk : k < 64) (j : Int) (hj : j = (k : Int)) (W : World) : Calls Tryd.prog 47 #[.int .u64 x, .int .i64 j] W fun e w' => e = .returned (.int .u64 (rotI x k)) ∧ w' = W := by
  rw [hj]
  have hv := rot_val x hx k hk
  clear hj
  generalize hr : rotI x k = r at hv ⊢
  generalize (k : Int) = a1 at hv ⊢
  have H : (if 0 ≤ (Go.bits .and .u64 (IntKind.u64.wrap (a1)) 63) then (if 0 ≤ (IntKind.u64.wrap (64 - (Go.bits .and .u64 (IntKind.u64.wrap (a1)) 63))) then (some (Go.bits .or .u64 (shl .u64 x (Go.bits .and .u64 (IntKind.u64.wrap (a1)) 63)) (shr .u64 x (IntKind.u64.wrap (64 - (Go.bits .and .u64 (IntKind.u64.wrap (a1)) 63)))))) else (none)) else (none)) = some r := hv
  clear hv hr
  obtain ⟨ji3, hji3⟩ : ∃ j_ : Int, (Go.bits .and .u64 (IntKind.u64.wrap (a1)) 63) = j_ := ⟨_, rfl⟩
  replace H : (if 0 ≤ (ji3) then (if 0 ≤ (IntKind.u64.wrap (64 - (ji3))) then (some (Go.bits .or .u64 (shl .u64 x (ji3)) (shr .u64 x (IntKind.u64.wrap (64 - (ji3)))))) else (none)) else (none)) = some r := by first | (rw [hji3] at H; exact H) | (simp only [hji3] at H ⊢; exact H)
  by_cases c4 : 0 ≤ (ji3)
  · rw [if_pos c4] at H
    have c4b0 := eq_true c4
    have c4b1 : decide (0 ≤ (ji3)) = true := decide_eq_true c4
    clear c4
    obtain ⟨ji5, hji5⟩ : ∃ j_ : Int, (shl .u64 x (ji3)) = j_ := ⟨_, rfl⟩
    replace H : (if 0 ≤ (IntKind.u64.wrap (64 - (ji3))) then (some (Go.bits .or .u64 (ji5) (shr .u64 x (IntKind.u64.wrap (64 - (ji3)))))) else (none)) = some r := by first | (rw [hji5] at H; exact H) | (simp only [hji5] at H ⊢; exact H)
    have hji5_ : (IntKind.u64.wrap (x * 2 ^ min (ji3).toNat 64)) = ji5 := hji5
    have hji5z : (ji3) ≤ 64 → (IntKind.u64.wrap (x * 2 ^ (ji3).toNat)) = ji5 := shl_small hji5
    obtain ⟨ji6, hji6⟩ : ∃ j_ : Int, (IntKind.u64.wrap (64 - (ji3))) = j_ := ⟨_, rfl⟩
    replace H : (if 0 ≤ (ji6) then (some (Go.bits .or .u64 (ji5) (shr .u64 x (ji6)))) else (none)) = some r := by first | (rw [hji6] at H; exact H) | (simp only [hji6] at H ⊢; exact H)
    by_cases c7 : 0 ≤ (ji6)
    · rw [if_pos c7] at H
      have c7b0 := eq_true c7
      have c7b1 : decide (0 ≤ (ji6)) = true := decide_eq_true c7
      clear c7
      obtain ⟨ji8, hji8⟩ : ∃ j_ : Int, (shr .u64 x (ji6)) = j_ := ⟨_, rfl⟩
      replace H : (some (Go.bits .or .u64 (ji5) (ji8))) = some r := by first | (rw [hji8] at H; exact H) | (simp only [hji8] at H ⊢; exact H)
      have hji8_ : (x / 2 ^ min (ji6).toNat 64) = ji8 := hji8
      have hji8z : (ji6) ≤ 64 → (x / 2 ^ (ji6).toNat) = ji8 := shr_small hji8
      obtain rfl := Option.some.inj H
      go_enter Tryd.func47, Tryd.ntmps47
      go_wp2
      go_ret
      exact ⟨by first | rfl | (simp; done) | (simp only [← hji3, ← hji5, ← hji6, ← hji8] <;> (first | rfl | simp)) | (simp [*]; done), rfl⟩
    · rw [if_neg c7] at H
      exact absurd H (by simp)
  · rw [if_neg c4] at H
    exact absurd H (by simp)

-- NOT PRINTED: function 37 (impl_sponge_round)
def LaidW (w : World) : Prop := (∀ m : Nat, m < 25 → w.cell? ⟨0, m, none⟩ = some (.int .i64 ((tAt m : Nat) : Int))) ∧ (∀ n : Nat, n < 24 → w.cell? ⟨1, n, none⟩ = some (.int .u64 (rd rcL (n : Int))))
theorem LaidW.grown {w w' : World} {row : Option Nat} (h : LaidW w) (hg : w.grownBy w' row) (h0 : row ≠ some 0) (h1 : row ≠ some 1) : LaidW w' :=
  ⟨fun m hm => hg.cell (h.1 m hm) (fun e => h0 e.symm), fun n hn => hg.cell (h.2 n hn) (fun e => h1 e.symm)⟩
def vI (l : List Int) (m : Nat) : Int := bV l (colL l) m
theorem vI_at (l : List Int) (x y : Nat) (hx : x < 5) (hy : y < 5) : vI l (5 * y + x) = rotI (Go.bits .xor .u64 (rd l ((x + 5 * y : Nat) : Int)) (dV (colL l) x)) (tAt (x + 5 * y)) := by
  unfold vI bV
  rw [show (5 * y + x) % 5 = x by omega, show 5 * y + x = x + 5 * y by omega]
theorem pI_at (x y : Nat) (hx : x < 5) (hy : y < 5) : pI (5 * y + x) = y + 5 * ((2 * x + 3 * y) % 5) := by
  unfold pI
  rw [show (5 * y + x) % 5 = x by omega, show (5 * y + x) / 5 = y by omega]
set_option maxHeartbeats 8000000 in
set_option maxRecDepth 100000 in
theorem implRound (l : List Int) (hl : l.length = 25) (hW : AllW l) (n : Int) (h0 : 0 ≤ n) (h1 : n ≤ 23) (gs : Nat) (w : World) (hb : Blk w gs 46 .u64 l) (hL : LaidW w) (hgs : 2 ≤ gs) :
    Calls Tryd.prog 37 #[.pointer (some ⟨gs, 0, none⟩), .int .i64 n] w fun e w' => e = .returned (.tuple #[]) ∧ Blk w' gs 46 .u64 (rndL l (rd rcL n)) ∧ w.grownBy w' (some gs) := by
  have HN : Aside0 (0 ≤ n ∧ n ≤ 23) := ⟨h0, h1⟩
  have LW : Aside0 (LaidW w) := ⟨hL⟩
  have GS : Aside0 (2 ≤ gs ∧ gs < w.heap.size) := ⟨hgs, hb.lt⟩
  clear h0 h1 hL hgs
  go_enter Tryd.func37, Tryd.ntmps37
  go_wp2_with (first
    | ((with_reducible refine gate_dst (N := 4) rfl ?_); refine A_new rfl (N := 4) rfl 65 .u64 (List.replicate 5 0) (by first | (go_simp; done) | (go_simp; rfl)) ?_; intro g4 w4 e4 B4 G4))
  have E4 := e4.out
  have D : Aside0 (gs < g4 ∧ w.heap.size ≤ g4) := ⟨by have := GS.out; omega, E4⟩
  have X4 : Aside0 (Blk w4 g4 65 .u64 (List.replicate 5 0)) := ⟨B4⟩
  have XS : Aside0 (Blk w4 gs 46 .u64 l) := ⟨hb.grown G4 (by simp)⟩
  have XG : Aside0 (w.grownBy w4 (some gs)) := ⟨grown_trans (grown_refl w (some gs)) G4 (by simp)⟩
  clear E4 e4 B4 G4 hb
  go_loopg [12] 5 (fun d v w' => ∃ (k : Nat) (i : Int), Aside0 (k + d = 5) ∧ Aside0 (i = k) ∧ v = .int .i64 i ∧ Aside0 (Blk w' g4 65 .u64 (bf id (colV l) (List.replicate 5 0) k)) ∧ Aside0 (Blk w' gs 46 .u64 l) ∧ Aside0 (w.grownBy w' (some gs)))
  case atStart => exact ⟨0, 0, ⟨rfl⟩, ⟨rfl⟩, rfl, X4, XS, XG⟩
  case round =>
    clear X4 XS XG
    obtain ⟨k, i, HK, HI, rfl, HB7, HB3, HG⟩ := hrel
    have ei := HI.out
    have ek := HK.out
    by_cases c : i < 5
    · have hlen : (bf id (colV l) (List.replicate 5 0) k).length = 5 := by rw [bf_length, List.length_replicate]
      have hx0 := HB3.out.cell i (by omega) (by rw [hl]; omega)
      obtain ⟨i5, hi5⟩ : ∃ j : Int, j = i + 5 := ⟨_, rfl⟩
      have hw5 : IntKind.i64.wrap (i + 5) = i5 := (i64_at (by omega) (by omega)).trans hi5.symm
      have hx5 := HB3.out.cell i5 (by omega) (by rw [hl]; omega)
      have pa5 : (0 ≤ i5) = True := eq_true (by omega)
      have qa5 : (i5 < 25) = True := eq_true (by omega)
      obtain ⟨i10, hi10⟩ : ∃ j : Int, j = i + 10 := ⟨_, rfl⟩
      have hw10 : IntKind.i64.wrap (i + 10) = i10 := (i64_at (by omega) (by omega)).trans hi10.symm
      have hx10 := HB3.out.cell i10 (by omega) (by rw [hl]; omega)
      have pa10 : (0 ≤ i10) = True := eq_true (by omega)
      have qa10 : (i10 < 25) = True := eq_true (by omega)
      obtain ⟨i15, hi15⟩ : ∃ j : Int, j = i + 15 := ⟨_, rfl⟩
      have hw15 : IntKind.i64.wrap (i + 15) = i15 := (i64_at (by omega) (by omega)).trans hi15.symm
      have hx15 := HB3.out.cell i15 (by omega) (by rw [hl]; omega)
      have pa15 : (0 ≤ i15) = True := eq_true (by omega)
      have qa15 : (i15 < 25) = True := eq_true (by omega)
      obtain ⟨i20, hi20⟩ : ∃ j : Int, j = i + 20 := ⟨_, rfl⟩
      have hw20 : IntKind.i64.wrap (i + 20) = i20 := (i64_at (by omega) (by omega)).trans hi20.symm
      have hx20 := HB3.out.cell i20 (by omega) (by rw [hl]; omega)
      have pa20 : (0 ≤ i20) = True := eq_true (by omega)
      have qa20 : (i20 < 25) = True := eq_true (by omega)
      have hx := HB7.out.cell i (by omega) (by rw [hlen]; omega)
      have hf := HB7.out.frozen i.toNat
      have hiw : IntKind.i64.wrap (i + 1) = i + 1 := i64_at (by omega) (by omega)
      have hv : Aside0 (Go.bits .xor .u64 (Go.bits .xor .u64 (Go.bits .xor .u64 (Go.bits .xor .u64 (rd l i) (rd l i5)) (rd l i10)) (rd l i15)) (rd l i20) = colV l k) := ⟨by rw [hi5, hi10, hi15, hi20, ei]; rfl⟩
      have c0 : decide (i < 5) = true := decide_eq_true c
      have p0 : (0 ≤ i) = True := eq_true (by omega)
      have q0 : (i < 5) = True := eq_true c
      have q00 : (i < 25) = True := eq_true (by omega)
      clear hi5 hi10 hi15 hi20 ei ek c hlen
      go_wp2_with fail
      go_region
      go_wp2
      have ei := HI.out
      have ek := HK.out
      have q0' := of_eq_true q0
      go_roundg (gk - 1)
      case measure => omega
      case rel =>
        refine ⟨k + 1, i + 1, ⟨by omega⟩, ⟨by omega⟩, rfl, ⟨?_⟩, ⟨blk_drew (HB3.out.far (by have := D.out; show gs ≠ g4; omega) _)⟩, ⟨grown_drew (grown_set HG.out _ _ (Or.inl (by have := D.out; show w.heap.size ≤ g4; omega)))⟩⟩
        rw [hv.out]
        have h := HB7.out.put i.toNat (colV l k)
        rw [bf_step (p := id) (m := k) (by rw [ei]; simp) rfl] at h
        exact blk_drew h
    · have c0 : decide (i < 5) = false := decide_eq_false c
      have ek : k = 5 := by omega
      subst ek
      have HC : Aside0 (Blk wr g4 65 .u64 (colL l)) := HB7
      clear HB7 HK HI ei c
      go_wp2_with (first
        | ((with_reducible refine gate_dst (N := 6) rfl ?_); refine A_new rfl (N := 6) rfl 46 .u64 (List.replicate 25 0) (by first | (go_simp; done) | (go_simp; rfl)) ?_; intro g6 w6 e6 B6 G6))
      have D6b : Aside0 (g4 < g6) := ⟨by have := e6.out; have := HC.out.lt; omega⟩
      have X6 : Aside0 (Blk w6 g6 46 .u64 (bf pI (vI l) (List.replicate 25 0) (5 * 0))) := ⟨B6⟩
      have XS : Aside0 (Blk w6 gs 46 .u64 l) := ⟨HB3.out.grown G6 (by simp)⟩
      have X4 : Aside0 (Blk w6 g4 65 .u64 (colL l)) := ⟨HC.out.grown G6 (by simp)⟩
      have XG : Aside0 (w.grownBy w6 (some gs)) := ⟨grown_trans HG.out G6 (by simp)⟩
      clear HB3 HC HG B6 G6 e6
      go_loopg [51] 5 (fun d v w' => ∃ (y : Nat) (j : Int), Aside0 (y + d = 5) ∧ Aside0 (j = y) ∧ v = .int .i64 j ∧ Aside0 (Blk w' g6 46 .u64 (bf pI (vI l) (List.replicate 25 0) (5 * y))) ∧ Aside0 (Blk w' g4 65 .u64 (colL l)) ∧ Aside0 (Blk w' gs 46 .u64 l) ∧ Aside0 (w.grownBy w' (some gs)))
      case atStart => exact ⟨0, 0, ⟨rfl⟩, ⟨rfl⟩, rfl, X6, X4, XS, XG⟩
      case round =>
        clear X6 X4 XS XG
        obtain ⟨y, j, HKy, HJ, rfl, HB6, HB4, HBS, HG⟩ := hrel
        obtain ⟨gk2, HG2⟩ : ∃ n, Aside0 (n = gk) := ⟨_, ⟨rfl⟩⟩
        have ej := HJ.out
        have eky := HKy.out
        by_cases c : j < 5
        · have c0 : decide (j < 5) = true := decide_eq_true c
          have HC5 := Aside0.mk c
          clear ej eky c
          go_wp2
          go_loopg [54] 5 (fun d v w' => ∃ (x : Nat) (i : Int), Aside0 (x + d = 5) ∧ Aside0 (i = x) ∧ v = .int .i64 i ∧ Aside0 (Blk w' g6 46 .u64 (bf pI (vI l) (List.replicate 25 0) (5 * y + x))) ∧ Aside0 (Blk w' g4 65 .u64 (colL l)) ∧ Aside0 (Blk w' gs 46 .u64 l) ∧ Aside0 (w.grownBy w' (some gs)))
          case atStart => exact ⟨0, 0, ⟨rfl⟩, ⟨rfl⟩, rfl, HB6, HB4, HBS, HG⟩
          case round =>
            clear HB6 HB4 HBS HG
            obtain ⟨x, i, HK, HI, rfl, HB6, HB4, HBS, HG⟩ := hrel
            have ei := HI.out
            have ek := HK.out
            have ej := HJ.out
            have hc5 := HC5.out
            by_cases c : i < 5
            · have hlc : (colL l).length = 5 := by rw [colL, bf_length, List.length_replicate]
              obtain ⟨a4, ha4⟩ : ∃ j : Int, j = ((x + 4 : Nat) : Int) := ⟨_, rfl⟩
              have hwa4 : IntKind.i64.wrap (i + 4) = a4 := (i64_at (by omega) (by omega)).trans (by omega)
              obtain ⟨j4, hj4⟩ : ∃ j : Int, j = (((x + 4) % 5 : Nat) : Int) := ⟨_, rfl⟩
              have hwj4 : Int.tmod a4 5 = j4 := (tmod5 (by omega)).trans (by omega)
              obtain ⟨a1, ha1⟩ : ∃ j : Int, j = ((x + 1 : Nat) : Int) := ⟨_, rfl⟩
              have hwa1 : IntKind.i64.wrap (i + 1) = a1 := (i64_at (by omega) (by omega)).trans (by omega)
              obtain ⟨j1, hj1⟩ : ∃ j : Int, j = (((x + 1) % 5 : Nat) : Int) := ⟨_, rfl⟩
              have hwj1 : Int.tmod a1 5 = j1 := (tmod5 (by omega)).trans (by omega)
              have paj4 : (0 ≤ j4) = True := eq_true (by omega)
              have qaj4 : (j4 < 5) = True := eq_true (by omega)
              have paj1 : (0 ≤ j1) = True := eq_true (by omega)
              have qaj1 : (j1 < 5) = True := eq_true (by omega)
              have hx4 := HB4.out.cell j4 (by omega) (by rw [hlc]; omega)
              have hx1 := HB4.out.cell j1 (by omega) (by rw [hlc]; omega)
              have AC : Aside0 (∀ W, Calls Tryd.prog 47 #[.int .u64 (rd (colL l) j1), .int .i64 1] W fun e w' => e = .returned (.int .u64 (rotI (rd (colL l) j1) 1)) ∧ ∃ m, w' = W.drewN m) := ⟨implRot _ (AllW_col l _) 1 (by omega) 1 rfl⟩
              obtain ⟨dd, hdd⟩ : ∃ z : Int, Go.bits .xor .u64 (rd (colL l) j4) (rotI (rd (colL l) j1) 1) = z := ⟨_, rfl⟩
              have HD : Aside0 (dd = dV (colL l) x) := ⟨by rw [← hdd, hj4, hj1]; rfl⟩
              have c0 : decide (i < 5) = true := decide_eq_true c
              have HCI := Aside0.mk c
              clear ha4 hj4 ha1 hj1 hlc ei ek ej hc5 c
              go_wp2_with fail
              go_quiet (first | exact Calls.quiet_of (AC.out _))
              go_wp2_with fail
              have Y6 : Aside0 (Blk (wr.drewN nq) g6 46 .u64 (bf pI (vI l) (List.replicate 25 0) (5 * y + x))) := ⟨HB6.out.drewN nq⟩
              have Y4 : Aside0 (Blk (wr.drewN nq) g4 65 .u64 (colL l)) := ⟨HB4.out.drewN nq⟩
              have YS : Aside0 (Blk (wr.drewN nq) gs 46 .u64 l) := ⟨HBS.out.drewN nq⟩
              have YG : Aside0 (w.grownBy (wr.drewN nq) (some gs)) := ⟨grown_drewN HG.out nq⟩
              clear HB6 HB4 HBS HG hx4 hx1 AC hwa4 hwj4 hwa1 hwj1 paj4 qaj4 paj1 qaj1 hdd c0
              generalize wr.drewN nq = wq at Y6 Y4 YS YG ⊢
              have ei := HI.out
              have ej := HJ.out
              have hci := HCI.out
              have hc5 := HC5.out
              have hl9 : (bf pI (vI l) (List.replicate 25 0) (5 * y + x)).length = 25 := by rw [bf_length, List.length_replicate]
              obtain ⟨t5, ht5⟩ : ∃ j : Int, j = ((5 * y : Nat) : Int) := ⟨_, rfl⟩
              have hwt5 : IntKind.i64.wrap (5 * j) = t5 := (i64_at (by omega) (by omega)).trans (by omega)
              obtain ⟨m, hm⟩ : ∃ j : Int, j = ((x + 5 * y : Nat) : Int) := ⟨_, rfl⟩
              have hwm : IntKind.i64.wrap (i + t5) = m := (i64_at (by omega) (by omega)).trans (by omega)
              have pam : (0 ≤ m) = True := eq_true (by omega)
              have qam : (m < 25) = True := eq_true (by omega)
              obtain ⟨b2, hb2⟩ : ∃ j : Int, j = ((2 * x : Nat) : Int) := ⟨_, rfl⟩
              have hwb2 : IntKind.i64.wrap (2 * i) = b2 := (i64_at (by omega) (by omega)).trans (by omega)
              obtain ⟨b3, hb3⟩ : ∃ j : Int, j = ((3 * y : Nat) : Int) := ⟨_, rfl⟩
              have hwb3 : IntKind.i64.wrap (3 * j) = b3 := (i64_at (by omega) (by omega)).trans (by omega)
              obtain ⟨b5, hb5⟩ : ∃ j : Int, j = ((2 * x + 3 * y : Nat) : Int) := ⟨_, rfl⟩
              have hwb5 : IntKind.i64.wrap (b2 + b3) = b5 := (i64_at (by omega) (by omega)).trans (by omega)
              obtain ⟨r, hr⟩ : ∃ j : Int, j = (((2 * x + 3 * y) % 5 : Nat) : Int) := ⟨_, rfl⟩
              have hwr : Int.tmod b5 5 = r := (tmod5 (by omega)).trans (by omega)
              obtain ⟨s5, hs5⟩ : ∃ j : Int, j = ((5 * ((2 * x + 3 * y) % 5) : Nat) : Int) := ⟨_, rfl⟩
              have hws5 : IntKind.i64.wrap (5 * r) = s5 := (i64_at (by omega) (by omega)).trans (by omega)
              obtain ⟨p, hp⟩ : ∃ j : Int, j = ((y + 5 * ((2 * x + 3 * y) % 5) : Nat) : Int) := ⟨_, rfl⟩
              have hwp : IntKind.i64.wrap (j + s5) = p := (i64_at (by omega) (by omega)).trans (by omega)
              have pap : (0 ≤ p) = True := eq_true (by omega)
              have qap : (p < 25) = True := eq_true (by omega)
              have hwz : W64 (Go.bits .xor .u64 (rd l m) dd) := W64_bits _ _ _
              have HV : Aside0 (rotI (Go.bits .xor .u64 (rd l m) dd) (tAt (x + 5 * y)) = vI l (5 * y + x)) := ⟨by rw [HD.out, hm, vI_at l x y (by omega) (by omega)]⟩
              have HP : Aside0 (p.toNat = pI (5 * y + x)) := ⟨by rw [pI_at x y (by omega) (by omega)]; omega⟩
              obtain ⟨z, hz⟩ : ∃ z : Int, Go.bits .xor .u64 (rd l m) dd = z := ⟨_, rfl⟩
              rw [hz] at HV hwz
              obtain ⟨kk, hkk⟩ : ∃ kk : Int, kk = ((tAt (x + 5 * y) : Nat) : Int) := ⟨_, rfl⟩
              have AC : Aside0 (∀ W, Calls Tryd.prog 47 #[.int .u64 z, .int .i64 kk] W fun e w' => e = .returned (.int .u64 (rotI z (tAt (x + 5 * y)))) ∧ w' = W) := ⟨implRotS _ hwz _ (tAt_lt _) _ hkk⟩
              obtain ⟨wd, hwd⟩ : ∃ wd : World, { heap := wq.heap, tape := wq.tape, drawn := wq.drawn + 1, os := wq.os, output := wq.output : World } = wd := ⟨_, rfl⟩
              have D6 : Aside0 (Blk wd g6 46 .u64 (bf pI (vI l) (List.replicate 25 0) (5 * y + x))) := ⟨by rw [← hwd]; exact Y6.out⟩
              have D4 : Aside0 (Blk wd g4 65 .u64 (colL l)) := ⟨by rw [← hwd]; exact Y4.out⟩
              have DS : Aside0 (Blk wd gs 46 .u64 l) := ⟨by rw [← hwd]; exact YS.out⟩
              have DG : Aside0 (w.grownBy wd (some gs)) := ⟨by rw [← hwd]; exact grown_drew YG.out⟩
              have hxs := DS.out.cell m (by omega) (by rw [hl]; omega)
              have hxp := D6.out.cell p (by omega) (by rw [hl9]; omega)
              have hfp := D6.out.frozen p.toNat
              have hxt : wd.cell? ⟨0, m.toNat, none⟩ = some (.int .i64 kk) := by
                have h := (LW.out.grown DG.out (by have := GS.out; simp; omega) (by have := GS.out; simp; omega)).1 (x + 5 * y) (by omega)
                rw [show m.toNat = x + 5 * y by omega, hkk]
                exact h
              refine wp_region_still_tail 27 (by kernel_rfl) (by kernel_rfl) ?_
              simp only [List.take_succ_cons, List.take_zero, List.drop_succ_cons, List.drop_zero]
              rw [hwd]
              clear Y6 Y4 YS YG hwd ht5 hm hb2 hb3 hb5 hr hs5 hp hkk hwz hl9 ei ej hci hc5
              repeat still_step
              still_call (AC.out _)
              repeat still_step
              refine wpStill_nil ?_
              have hiw : IntKind.i64.wrap (i + 1) = i + 1 := i64_at (by have := HI.out; omega) (by have := HCI.out; omega)
              go_wp2
              have ei := HI.out
              have ek := HK.out
              have hci := HCI.out
              go_roundg (gk - 1)
              case measure => omega
              case rel =>
                refine ⟨x + 1, i + 1, ⟨by omega⟩, ⟨by omega⟩, rfl, ⟨?_⟩, ⟨D4.out.far (by have := D6b.out; show g4 ≠ g6; omega) _⟩, ⟨DS.out.far (by have := D6b.out; have := D.out; show gs ≠ g6; omega) _⟩, ⟨grown_set DG.out _ _ (Or.inl (by have := D6b.out; have := D.out; show w.heap.size ≤ g6; omega))⟩⟩
                rw [HV.out]
                have h := D6.out.put p.toNat (vI l (5 * y + x))
                rw [bf_step (p := pI) (m := 5 * y + x) HP.out rfl] at h
                exact h
            · have c0 : decide (i < 5) = false := decide_eq_false c
              have ex : x = 5 := by omega
              subst ex
              have hiw : IntKind.i64.wrap (j + 1) = j + 1 := i64_at (by omega) (by omega)
              clear ei ek ej hc5 c
              go_wp2
              have ej := HJ.out
              have eky := HKy.out
              have hc5 := HC5.out
              have eg2 := HG2.out
              go_roundg (gk2 - 1)
              case measure => omega
              case rel => exact ⟨y + 1, j + 1, ⟨by omega⟩, ⟨by omega⟩, rfl, HB6, HB4, HBS, HG⟩
        · have c0 : decide (j < 5) = false := decide_eq_false c
          have ey : y = 5 := by omega
          subst ey
          have Y6 : Aside0 (Blk wr g6 46 .u64 (bL l)) := HB6
          have YS : Aside0 (Blk wr gs 46 .u64 (bf id (chiV (bL l)) l (5 * 0))) := HBS
          clear HB6 HBS HB4 HKy HJ ej eky c
          go_wp2
          go_loopg [98] 5 (fun d v w' => ∃ (y : Nat) (j : Int), Aside0 (y + d = 5) ∧ Aside0 (j = y) ∧ v = .int .i64 j ∧ Aside0 (Blk w' gs 46 .u64 (bf id (chiV (bL l)) l (5 * y))) ∧ Aside0 (Blk w' g6 46 .u64 (bL l)) ∧ Aside0 (w.grownBy w' (some gs)))
          case atStart => exact ⟨0, 0, ⟨rfl⟩, ⟨rfl⟩, rfl, YS, Y6, HG⟩
          case round =>
            clear YS Y6 HG
            obtain ⟨y, j, HKy, HJ, rfl, HB3, HB9, HG⟩ := hrel
            obtain ⟨gk3, HG3⟩ : ∃ n, Aside0 (n = gk) := ⟨_, ⟨rfl⟩⟩
            have ej := HJ.out
            have eky := HKy.out
            by_cases c : j < 5
            · have c0 : decide (j < 5) = true := decide_eq_true c
              have HC5 := Aside0.mk c
              clear ej eky c
              go_wp2
              go_loopg [101] 5 (fun d v w' => ∃ (x : Nat) (i : Int), Aside0 (x + d = 5) ∧ Aside0 (i = x) ∧ v = .int .i64 i ∧ Aside0 (Blk w' gs 46 .u64 (bf id (chiV (bL l)) l (5 * y + x))) ∧ Aside0 (Blk w' g6 46 .u64 (bL l)) ∧ Aside0 (w.grownBy w' (some gs)))
              case atStart => exact ⟨0, 0, ⟨rfl⟩, ⟨rfl⟩, rfl, HB3, HB9, HG⟩
              case round =>
                clear HB3 HB9 HG
                obtain ⟨x, i, HK, HI, rfl, HB3, HB9, HG⟩ := hrel
                have ei := HI.out
                have ek := HK.out
                have ej := HJ.out
                have hc5 := HC5.out
                by_cases c : i < 5
                · have hlb : (bL l).length = 25 := by rw [bL, bf_length, List.length_replicate]
                  have hl3 : (bf id (chiV (bL l)) l (5 * y + x)).length = 25 := by rw [bf_length, hl]
                  obtain ⟨t5, ht5⟩ : ∃ j : Int, j = ((5 * y : Nat) : Int) := ⟨_, rfl⟩
                  have hwt5 : IntKind.i64.wrap (5 * j) = t5 := (i64_at (by omega) (by omega)).trans (by omega)
                  obtain ⟨m, hm⟩ : ∃ j : Int, j = ((x + 5 * y : Nat) : Int) := ⟨_, rfl⟩
                  have hwm : IntKind.i64.wrap (i + t5) = m := (i64_at (by omega) (by omega)).trans (by omega)
                  have pam : (0 ≤ m) = True := eq_true (by omega)
                  have qam : (m < 25) = True := eq_true (by omega)
                  obtain ⟨a1, ha1⟩ : ∃ j : Int, j = ((x + 1 : Nat) : Int) := ⟨_, rfl⟩
                  have hwa1 : IntKind.i64.wrap (i + 1) = a1 := (i64_at (by omega) (by omega)).trans (by omega)
                  obtain ⟨r1, hr1⟩ : ∃ j : Int, j = (((x + 1) % 5 : Nat) : Int) := ⟨_, rfl⟩
                  have hwr1 : Int.tmod a1 5 = r1 := (tmod5 (by omega)).trans (by omega)
                  obtain ⟨m1, hm1⟩ : ∃ j : Int, j = (((x + 1) % 5 + 5 * y : Nat) : Int) := ⟨_, rfl⟩
                  have hwm1 : IntKind.i64.wrap (r1 + t5) = m1 := (i64_at (by omega) (by omega)).trans (by omega)
                  have pam1 : (0 ≤ m1) = True := eq_true (by omega)
                  have qam1 : (m1 < 25) = True := eq_true (by omega)
                  obtain ⟨a2, ha2⟩ : ∃ j : Int, j = ((x + 2 : Nat) : Int) := ⟨_, rfl⟩
                  have hwa2 : IntKind.i64.wrap (i + 2) = a2 := (i64_at (by omega) (by omega)).trans (by omega)
                  obtain ⟨r2, hr2⟩ : ∃ j : Int, j = (((x + 2) % 5 : Nat) : Int) := ⟨_, rfl⟩
                  have hwr2 : Int.tmod a2 5 = r2 := (tmod5 (by omega)).trans (by omega)
                  obtain ⟨m2, hm2⟩ : ∃ j : Int, j = (((x + 2) % 5 + 5 * y : Nat) : Int) := ⟨_, rfl⟩
                  have hwm2 : IntKind.i64.wrap (r2 + t5) = m2 := (i64_at (by omega) (by omega)).trans (by omega)
                  have pam2 : (0 ≤ m2) = True := eq_true (by omega)
                  have qam2 : (m2 < 25) = True := eq_true (by omega)
                  have hxm := HB9.out.cell m (by omega) (by rw [hlb]; omega)
                  have hxm1 := HB9.out.cell m1 (by omega) (by rw [hlb]; omega)
                  have hxm2 := HB9.out.cell m2 (by omega) (by rw [hlb]; omega)
                  have hx3 := HB3.out.cell m (by omega) (by rw [hl3]; omega)
                  have hf3 := HB3.out.frozen m.toNat
                  have HV : Aside0 (Go.bits .xor .u64 (rd (bL l) m) (Go.bits .and .u64 (Go.bits .xor .u64 18446744073709551615 (rd (bL l) m1)) (rd (bL l) m2)) = chiV (bL l) (5 * y + x)) := ⟨by rw [hm, hm1, hm2, chiV_at (bL l) x y (by omega) (by omega)]⟩
                  have HP : Aside0 (m.toNat = id (5 * y + x)) := ⟨by simp only [id]; omega⟩
                  have HA1 : Aside0 (a1 = ((x + 1 : Nat) : Int)) := ⟨ha1⟩
                  have c0 : decide (i < 5) = true := decide_eq_true c
                  clear ht5 hm ha1 hr1 hm1 ha2 hr2 hm2 hlb hl3 ei ek ej hc5 c
                  go_wp2_with fail
                  go_region
                  go_wp2
                  have ei := HI.out
                  have ek := HK.out
                  have ci := of_decide_eq_true c0
                  go_roundg (gk - 1)
                  case measure => omega
                  case rel =>
                    refine ⟨x + 1, a1, ⟨by omega⟩, HA1, rfl, ⟨?_⟩, ⟨blk_drew (HB9.out.far (by have := D6b.out; have := D.out; show g6 ≠ gs; omega) _)⟩, ⟨grown_drew (grown_set HG.out _ _ (Or.inr rfl))⟩⟩
                    have h := HB3.out.put m.toNat (chiV (bL l) (5 * y + x))
                    rw [bf_step (p := id) (m := 5 * y + x) HP.out rfl, ← HV.out] at h
                    exact blk_drew h
                · have c0 : decide (i < 5) = false := decide_eq_false c
                  have ex : x = 5 := by omega
                  subst ex
                  have hiw : IntKind.i64.wrap (j + 1) = j + 1 := i64_at (by omega) (by omega)
                  clear ei ek ej hc5 c
                  go_wp2
                  have ej := HJ.out
                  have eky := HKy.out
                  have hc5 := HC5.out
                  have eg3 := HG3.out
                  go_roundg (gk3 - 1)
                  case measure => omega
                  case rel => exact ⟨y + 1, j + 1, ⟨by omega⟩, ⟨by omega⟩, rfl, HB3, HB9, HG⟩
            · have c0 : decide (j < 5) = false := decide_eq_false c
              have ey : y = 5 := by omega
              subst ey
              have X3 : Aside0 (Blk wr gs 46 .u64 (chiL l)) := HB3
              have hlc : (chiL l).length = 25 := by rw [chiL_length, hl]
              have hx0 := X3.out.cell 0 (by omega) (by rw [hlc]; omega)
              simp only [Int.toNat_zero] at hx0
              have hf0 := X3.out.frozen 0
              have hn0 := HN.out.1
              have hn1 := HN.out.2
              have hxr : wr.cell? ⟨1, n.toNat, none⟩ = some (.int .u64 (rd rcL n)) := by
                have h := (LW.out.grown HG.out (by have := GS.out; simp; omega) (by have := GS.out; simp; omega)).2 n.toNat (by omega)
                rwa [Int.toNat_of_nonneg hn0] at h
              have pn : (0 ≤ n) = True := eq_true hn0
              have qn : (n < 24) = True := eq_true (by omega)
              clear HB3 HKy HJ ej eky c hlc hn0 hn1
              go_wp2_with fail
              go_region
              go_wp2
              try simp only [Exit.inBlock, Exit.then]
              have hres : ∀ (T : Array Value) (W : World), (results Tryd.f37 T).run Tryd.prog W = .ok (.tuple #[]) W := fun T W => by first | rfl | kernel_rfl | simp [results, Tryd.results37, go_sem]
              refine ⟨rfl, .tuple #[], hres _ _, rfl, blk_drew (X3.out.put 0 _), grown_drew (grown_set HG.out _ _ (Or.inr rfl))⟩
end Go.Proofs.YtakejfhfkjnhlaaDoor.KW
