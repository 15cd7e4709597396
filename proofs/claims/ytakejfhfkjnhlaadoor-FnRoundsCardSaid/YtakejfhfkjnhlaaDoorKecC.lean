/- Walks: the text of a state (both texts); the tables of the reference. Conditions: none. -/
import Derived.Test.YtakejfhfkjnhlaaDoorKecB
set_option linter.unusedVariables false
set_option linter.unusedSimpArgs false
namespace Go.Proofs.YtakejfhfkjnhlaaDoor.KW
open Go.RowKit Go.Proofs.YtakejfhfkjnhlaaDoorW.PrintWords Go.Proofs.YtakejfhfkjnhlaaDoorW.PrintLast Go.Proofs.YtakejfhfkjnhlaaDoorW.PrintMore
open Go.Proofs.YtakejfhfkjnhlaaDoor.M Go.Proofs.YtakejfhfkjnhlaaDoor.PFnExactKeccakRound
theorem info65' : (Tryd.prog.info? 65).map (·.size) = some 5 := by kernel_rfl
theorem i5 : (Tryd.prog.info? 5).map (fun i => (i.zero, i.size, i.bytes)) = some (some (.int .u8 0), 1, 1) := by kernel_rfl
def offL : List Int := [0, 1, 62, 28, 27, 36, 44, 6, 55, 20, 3, 10, 43, 25, 39, 41, 45, 15, 21, 8, 18, 2, 61, 56, 14]
theorem offL_at (m : Nat) : rd offL (m : Int) = ((tAt m : Nat) : Int) := by
  rw [rd_nat, tAt, List.getD_eq_getElem?_getD, show offL = tN.map (fun (n : Nat) => (n : Int)) from rfl, List.getElem?_map]
  cases tN[m]? <;> rfl
def txV (l : List Int) (j : Nat) : Int := (((rd l ((j / 8 : Nat) : Int)).toNat / 256 ^ (j % 8) % 256 : Nat) : Int)
theorem txV_all (l : List Int) (hl : l.length = 25) : bf id (txV l) (List.replicate 200 0) 200 = textL l := by
  rw [bf_all, textL_range, hl]
  rfl
theorem shr_txt (x : Int) (hx : W64 x) (r : Nat) (hr : r < 8) (m : Int) (hm : m = 8 * (r : Int)) : x / 2 ^ m.toNat % 256 = ((x.toNat / 256 ^ r % 256 : Nat) : Int) := by
  subst hm
  have h0 := hx.1
  obtain ⟨n, rfl⟩ := Int.eq_ofNat_of_zero_le h0
  rw [Int.toNat_natCast, show (8 * (r : Int)).toNat = 8 * r by omega, show (256 : Nat) ^ r = 2 ^ (8 * r) by rw [Nat.pow_mul], Int.natCast_emod, Int.natCast_ediv, Int.natCast_pow]
  rfl
set_option maxHeartbeats 8000000 in
set_option maxRecDepth 100000 in
theorem specOff (w : World) : Calls Tryd.prog 34 #[] w fun e w' => e = .returned (.agg (nums .u64 offL).toArray) ∧ Below w.heap.size w w' := by
  go_enter Tryd.func34, Tryd.ntmps34
  go_wp2_with (first
    | ((with_reducible refine gate_dst (N := 0) rfl ?_); refine A_new rfl (N := 0) rfl 42 .u64 (List.replicate 25 0) (by first | (go_simp; done) | (go_simp; rfl)) ?_; intro g2 w2 e2 B2 G2)
    | ((with_reducible refine gate_store (t := 42) (p := 0) rfl ?_); refine A_put rfl (.tmp 0) _ rfl 42 .u64 rfl g2 (List.replicate 25 0) (offL) rfl rfl B2 (rfl) (info42) ?_; intro w3 B3 G3))
  refine bodyPost_ret (results_cell_row (p := 0) (ty := 42) Tryd.results34 _ w3 g2 42 _ (0, 0) _ rfl B3 Tryd.underlying42 rfl (by rw [info42]; rfl)) rfl ⟨rfl, ?_⟩
  exact grown_below (grown_trans G2 G3 (fun k hk => by obtain rfl := Option.some.inj hk; exact Or.inl e2.out))
set_option maxHeartbeats 8000000 in
set_option maxRecDepth 100000 in
theorem specRcs (w : World) : Calls Tryd.prog 35 #[] w fun e w' => e = .returned (.agg (nums .u64 rcL).toArray) ∧ Below w.heap.size w w' := by
  go_enter Tryd.func35, Tryd.ntmps35
  go_wp2_with (first
    | ((with_reducible refine gate_dst (N := 0) rfl ?_); refine A_new rfl (N := 0) rfl 44 .u64 (List.replicate 24 0) (by first | (go_simp; done) | (go_simp; rfl)) ?_; intro g2 w2 e2 B2 G2)
    | ((with_reducible refine gate_store (t := 44) (p := 0) rfl ?_); refine A_put rfl (.tmp 0) _ rfl 44 .u64 rfl g2 (List.replicate 24 0) (rcL) rfl rfl B2 (rfl) (info44) ?_; intro w3 B3 G3))
  refine bodyPost_ret (results_cell_row (p := 0) (ty := 44) Tryd.results35 _ w3 g2 44 _ (0, 0) _ rfl B3 Tryd.underlying44 rfl (by rw [info44]; rfl)) rfl ⟨rfl, ?_⟩
  exact grown_below (grown_trans G2 G3 (fun k hk => by obtain rfl := Option.some.inj hk; exact Or.inl e2.out))
set_option maxHeartbeats 8000000 in
set_option maxRecDepth 100000 in
theorem specText (l : List Int) (hl : l.length = 25) (hW : AllW l) (w : World) : Calls Tryd.prog 31 #[.agg (nums .u64 l).toArray] w fun e w' => e = .returned (.string (strOfNums (textL l))) ∧ Below w.heap.size w w' := by
  go_enter Tryd.func31, Tryd.ntmps31
  go_wp2_with (first
    | ((with_reducible refine gate_dst (N := 1) rfl ?_); refine A_new rfl (N := 1) rfl 38 .u64 (l) (by first | (go_simp; done) | (go_simp; rfl)) ?_; intro g2 w2 e2 B2 G2)
    | ((with_reducible refine gate_dst (N := 5) rfl ?_); refine A_make rfl (N := 5) rfl 26 5 _ _ rfl .u8 1 200 rfl rfl Tryd.underlying26 i5 (by omega) (by omega) ?_; intro g3 w3 e3 B3 G3))
  have E2 := e2.out
  have E3 := e3.out
  have N23 : Aside0 (g2 ≠ g3) := ⟨by have := B2.lt; omega⟩
  have GE3 : Aside0 (w.heap.size ≤ g3) := ⟨by have := G2.size; omega⟩
  have G0 : Aside0 (w.grownBy w3 none) := ⟨grown_trans G2 G3 (by simp)⟩
  have B0 : Aside0 (Blk w3 g2 38 .u64 l) := ⟨B2.grown G3 (by simp)⟩
  have BV : Aside0 (Blk w3 g3 5 .u8 (List.replicate 200 0)) := ⟨B3⟩
  clear E2 E3 e2 e3 B2 B3 G2 G3
  go_loopg [4] 200 (fun d v w' => ∃ (k : Nat) (i : Int), Aside0 (k + d = 200) ∧ Aside0 (i = k) ∧ v = .int .i64 i ∧ Aside0 (Blk w' g3 5 .u8 (bf id (txV l) (List.replicate 200 0) k)) ∧ Aside0 (Blk w' g2 38 .u64 l) ∧ Aside0 (w.grownBy w' none))
  case atStart => exact ⟨0, 0, ⟨rfl⟩, ⟨rfl⟩, rfl, BV, B0, G0⟩
  case round =>
    clear B0 BV G0
    obtain ⟨k, i, HK, HI, rfl, HB3, HB2, HG⟩ := hrel
    have ei := HI.out
    have ek := HK.out
    by_cases c : i < 200
    · obtain ⟨q, hq⟩ : ∃ q : Int, q = ((k / 8 : Nat) : Int) := ⟨_, rfl⟩
      obtain ⟨r, hr⟩ : ∃ r : Int, r = ((k % 8 : Nat) : Int) := ⟨_, rfl⟩
      obtain ⟨m, hm⟩ : ∃ m : Int, m = 8 * r := ⟨_, rfl⟩
      have hq1 : Int.tdiv i 8 = q := by rw [Int.tdiv_eq_ediv_of_nonneg (by omega)]; omega
      have hq3 : i / 8 = q := by omega
      have hq2 : IntKind.i64.wrap q = q := (i64_w _).trans (by unfold wrap64; omega)
      have hr1 : Int.tmod i 8 = r := by rw [Int.tmod_eq_emod_of_nonneg (by omega)]; omega
      have hr2 : IntKind.u64.wrap r = r := u64_id _ (by omega) (by omega)
      have hm2 : IntKind.u64.wrap (8 * r) = m := by rw [← hm]; exact u64_id _ (by omega) (by omega)
      have hm3 : min m.toNat 64 = m.toNat := by omega
      have hiw : IntKind.i64.wrap (i + 1) = i + 1 := (i64_w _).trans (by unfold wrap64; omega)
      have hlen : (bf id (txV l) (List.replicate 200 0) k).length = 200 := by rw [bf_length, List.length_replicate]
      have hx := HB3.out.cell i (by omega) (by rw [hlen]; omega)
      have hf := HB3.out.frozen i.toNat
      have hx2 := HB2.out.cell q (by omega) (by rw [hl]; omega)
      have hv : rd l q / 2 ^ m.toNat % 256 = txV l k := by
        rw [shr_txt (rd l q) (hW q) (k % 8) (by omega) m (by omega), hq]
        rfl
      have c0 : decide (i < 200) = true := decide_eq_true c
      have p0 : (0 ≤ i) = True := eq_true (by omega)
      have q0 : (i < 200) = True := eq_true c
      have p1 : (0 ≤ q) = True := eq_true (by omega)
      have q1 : (q < 25) = True := eq_true (by omega)
      have p2 : (0 ≤ m) = True := eq_true (by omega)
      have q2 : (m ≤ 64) = True := eq_true (by omega)
      clear hq hr hm ei ek c hlen
      go_wp2
      have ei := HI.out
      have ek := HK.out
      have q0' := of_eq_true q0
      go_roundg (gk - 1)
      case measure => omega
      case rel =>
        refine ⟨k + 1, i + 1, ⟨by omega⟩, ⟨by omega⟩, rfl, ⟨?_⟩, ⟨?_⟩, ⟨?_⟩⟩
        · have h := (HB3.out).put i.toNat (txV l k)
          rw [bf_step (p := id) (m := k) (by rw [ei]; simp) rfl] at h
          exact h
        · exact (HB2.out).far N23.out _
        · exact grown_set (HG.out) _ _ (Or.inl GE3.out)
    · have c0 : decide (i < 200) = false := decide_eq_false c
      have ek : k = 200 := by omega
      subst ek
      have hcv := Blk_string (P := Tryd.prog) Tryd.underlying26 Tryd.underlying5 Tryd.underlying9 HB3.out (by rw [bf_length, List.length_replicate]) (by omega)
      rw [txV_all l hl] at hcv
      clear HI HK ek c
      go_wp2
      go_ret
      exact ⟨rfl, grown_below HG.out⟩
end Go.Proofs.YtakejfhfkjnhlaaDoor.KW
