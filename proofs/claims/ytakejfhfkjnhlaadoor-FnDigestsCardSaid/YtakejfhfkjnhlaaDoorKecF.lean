/- Walk: all rounds of the reference. Conditions: none. -/
import Derived.Test.YtakejfhfkjnhlaaDoorKecE
import Derived.StillTailTactics
set_option linter.unusedVariables false
set_option linter.unusedSimpArgs false
namespace Go.Proofs.YtakejfhfkjnhlaaDoor.KW
open Go.RowKit Go.Proofs.YtakejfhfkjnhlaaDoorW.PrintWords Go.Proofs.YtakejfhfkjnhlaaDoorW.PrintLast Go.Proofs.YtakejfhfkjnhlaaDoorW.PrintMore
open Go.Proofs.YtakejfhfkjnhlaaDoor.M Go.Proofs.YtakejfhfkjnhlaaDoor.PFnExactKeccakRound
section
variable {P : Program} {ops : Array Oper} {rest : List Oper} {o : Oper} {a : Act} {Q : Act → Prop} {w : World}
theorem still_get (hw : Region.wanted o (yielded ops a.tmps) = true) (x : Operand) (t : TypeId) (k : IntKind) (ho : o.op = .load t x) (g : Nat) (l : List Int) (hx : a.eval x = .pointer (some ⟨g, 0, none⟩)) (hb : Blk w g t k l)
    {n e : Nat} (hu : P.underlying t = some (.array n e)) (hi : (P.info? t).map (·.size) = some l.length) (h : wpStill P ops w Q rest (a.put o.dst (.agg (nums k l).toArray))) : wpStill P ops w Q (o :: rest) a := by
  show if Region.wanted o (yielded ops a.tmps) then o.still P a w (wpStill P ops w Q rest) else wpStill P ops w Q rest (a.put o.dst undef)
  rw [if_pos hw]
  have hr : (execOp a.eval o).run P w = .ok (.value (.agg (nums k l).toArray)) w := by
    unfold execOp
    simp only [ho, hx, Instr.loadAt, Instr.sureAddr, Sem.run_bind, Sem.run_pure, Result.andThen_ok, run_loadVar_row w g t t _ (0, 0) _ hb hu rfl (by rw [hi]; simp [nums])]
  unfold Oper.still
  rw [hr, Oper.stillUpon_value]
  exact h
end
set_option maxHeartbeats 8000000 in
set_option maxRecDepth 100000 in
theorem specAll (l : List Int) (hl : l.length = 25) (hW : AllW l) (w : World) : Calls Tryd.prog 39 #[.agg (nums .u64 l).toArray] w fun e w' => e = .returned (.agg (nums .u64 (allL l 24)).toArray) ∧ Below w.heap.size w w' := by
  go_enter Tryd.func39, Tryd.ntmps39
  go_wp2_with (first
    | ((with_reducible refine gate_dst (N := 1) rfl ?_); refine A_new rfl (N := 1) rfl 38 .u64 (l) (by first | (go_simp; done) | (go_simp; rfl)) ?_; intro g1 w1 e1 B1 G1)
    | ((with_reducible refine gate_dst (N := 2) rfl ?_); refine A_new rfl (N := 2) rfl 38 .u64 (List.replicate 25 0) (by first | (go_simp; done) | (go_simp; rfl)) ?_; intro g2 w2 e2 B2 G2)
    | ((with_reducible refine gate_dst (N := 3) rfl ?_); refine A_new rfl (N := 3) rfl 42 .u64 (List.replicate 25 0) (by first | (go_simp; done) | (go_simp; rfl)) ?_; intro g3 w3 e3 B3 G3)
    | ((with_reducible refine gate_dst (N := 4) rfl ?_); refine A_new rfl (N := 4) rfl 44 .u64 (List.replicate 24 0) (by first | (go_simp; done) | (go_simp; rfl)) ?_; intro g4 w4 e4 B4 G4)
    | ((with_reducible refine gate_store (t := 42) (p := 3) rfl ?_); refine A_put rfl (.tmp 3) _ rfl 42 .u64 rfl g3 (List.replicate 25 0) (offL) rfl rfl B3 (rfl) (info42) ?_; intro w5 B5 G5)
    | ((with_reducible refine gate_store (t := 44) (p := 4) rfl ?_); refine A_put rfl (.tmp 4) _ rfl 44 .u64 rfl g4 (List.replicate 24 0) (rcL) rfl rfl B4 (rfl) (info44) ?_; intro w6 B6 G6)
    | ((with_reducible refine gate_callee (f := 34) rfl ?_); refine goesL_ (some 6) rfl rfl Tryd.func34 (by kernel_rfl) rfl #[] rfl (by (try simp only [List.map_toArray, List.map_cons, List.map_nil]); first | done | rfl) ?_; (with_reducible refine (specOff _).mono ?_); rintro e wo ⟨rfl, BO⟩; refine ⟨_, rfl, ?_⟩)
    | ((with_reducible refine gate_callee (f := 35) rfl ?_); refine goesL_ (some 7) rfl rfl Tryd.func35 (by kernel_rfl) rfl #[] rfl (by (try simp only [List.map_toArray, List.map_cons, List.map_nil]); first | done | rfl) ?_; (with_reducible refine (specRcs _).mono ?_); rintro e wr ⟨rfl, BR⟩; refine ⟨_, rfl, ?_⟩))
  have E1 := e1.out
  have E2 := e2.out
  have E3 := e3.out
  have E4 := e4.out
  have L1 := B1.lt
  have L2 := B2.lt
  have L3 := B3.lt
  have S2 := G2.size
  have S3 := G3.size
  have S4 := G4.size
  have S5 := G5.size
  have SO := BO.size
  have SR := BR.size
  have D : Aside0 (w.heap.size ≤ g1 ∧ g1 < g2 ∧ g2 < g3 ∧ g3 < g4) := ⟨by exact ⟨by omega, by omega, by omega, by omega⟩⟩
  have BO' := below_grown BO
  have BR' := below_grown BR
  have G0 : Aside0 (w.grownBy w6 none) := ⟨grown_trans (grown_trans (grown_trans (grown_trans (grown_trans (grown_trans (grown_trans G1 G2 (by simp)) BO' (by simp)) G3 (by simp)) G5 (fun k hk => by obtain rfl := Option.some.inj hk; exact Or.inl (by omega))) BR' (by simp)) G4 (by simp)) G6 (fun k hk => by obtain rfl := Option.some.inj hk; exact Or.inl (by omega))⟩
  have X1 : Aside0 (Blk w6 g1 38 .u64 (allL l 0)) := ⟨((((((B1.grown G2 (by simp)).grown BO' (by simp)).grown G3 (by simp)).grown G5 (by simp; omega)).grown BR' (by simp)).grown G4 (by simp)).grown G6 (by simp; omega)⟩
  have X2 : Aside0 (Blk w6 g2 38 .u64 (List.replicate 25 0)) := ⟨(((((B2.grown BO' (by simp)).grown G3 (by simp)).grown G5 (by simp; omega)).grown BR' (by simp)).grown G4 (by simp)).grown G6 (by simp; omega)⟩
  have X3 : Aside0 (Blk w6 g3 42 .u64 offL) := ⟨((B5.grown BR' (by simp)).grown G4 (by simp)).grown G6 (by simp; omega)⟩
  have X4 : Aside0 (Blk w6 g4 44 .u64 rcL) := ⟨B6⟩
  clear E1 E2 E3 E4 L1 L2 L3 S2 S3 S4 S5 SO SR BO' BR' BO BR e1 e2 e3 e4 B1 B2 B3 B4 B5 B6 G1 G2 G3 G4 G5 G6
  go_loopg [5] 24 (fun d v w' => ∃ (k : Nat) (i : Int), Aside0 (k + d = 24) ∧ Aside0 (i = k) ∧ v = .int .i64 i ∧ Aside0 (Blk w' g1 38 .u64 (allL l k)) ∧ Aside0 (Blk w' g2 38 .u64 (List.replicate 25 0)) ∧ Aside0 (Blk w' g3 42 .u64 offL) ∧ Aside0 (Blk w' g4 44 .u64 rcL) ∧ Aside0 (w.grownBy w' none))
  case atStart => exact ⟨0, 0, ⟨rfl⟩, ⟨rfl⟩, rfl, X1, X2, X3, X4, G0⟩
  case round =>
    clear X1 X2 X3 X4 G0
    obtain ⟨k, i, HK, HI, rfl, HB1, HB2, HB3, HB4, HG⟩ := hrel
    have ei := HI.out
    have ek := HK.out
    by_cases c : i < 24
    · have HR4 : Aside0 (0 ≤ i ∧ i < 24) := ⟨by omega, by omega⟩
      have hla : (allL l k).length = 25 := by rw [allL_length, hl]
      obtain ⟨rc, hrc⟩ : ∃ x, Aside0 (rd rcL i = x) := ⟨_, ⟨rfl⟩⟩
      have HR : Aside0 (rndL (allL l k) rc = allL l (k + 1)) := ⟨by rw [← hrc.out, ei]; rfl⟩
      have AC : Aside0 (∀ W, Calls Tryd.prog 32 #[.agg (nums .u64 (allL l k)).toArray, .agg (nums .u64 offL).toArray, .int .u64 rc] W fun e w' => e = .returned (.agg (nums .u64 (allL l (k + 1))).toArray) ∧ Below W.heap.size W w') := ⟨fun W => by rw [← HR.out]; exact specRound _ hla (AllW_all hW k) rc W⟩
      have hiw : IntKind.i64.wrap (i + 1) = i + 1 := i64_at (by omega) (by omega)
      have c0 : decide (i < 24) = true := decide_eq_true c
      have p0 : (0 ≤ i) = True := eq_true (by omega)
      have q0 : (i < 24) = True := eq_true c
      clear ei ek c
      go_wp2_with fail
      refine wp_region_still_tail 5 (by kernel_rfl) (by kernel_rfl) ?_
      simp only [List.take_succ_cons, List.take_zero, List.drop_succ_cons, List.drop_zero]
      obtain ⟨wd, hwd⟩ : ∃ wd : World, { heap := wr.heap, tape := wr.tape, drawn := wr.drawn + 1, os := wr.os, output := wr.output : World } = wd := ⟨_, rfl⟩
      have D1 : Aside0 (Blk wd g1 38 .u64 (allL l k)) := ⟨by rw [← hwd]; exact HB1.out⟩
      have D2 : Aside0 (Blk wd g2 38 .u64 (List.replicate 25 0)) := ⟨by rw [← hwd]; exact HB2.out⟩
      have D3 : Aside0 (Blk wd g3 42 .u64 offL) := ⟨by rw [← hwd]; exact HB3.out⟩
      have D4 : Aside0 (Blk wd g4 44 .u64 rcL) := ⟨by rw [← hwd]; exact HB4.out⟩
      have DG : Aside0 (w.grownBy wd none) := ⟨by rw [← hwd]; exact grown_drew HG.out⟩
      rw [hwd]
      clear HB1 HB2 HB3 HB4 HG hwd
      have hx := D4.out.cell i HR4.out.1 HR4.out.2
      rw [hrc.out] at hx
      clear hrc
      refine still_get (by go_simp) (.tmp 1) 38 .u64 rfl g1 _ rfl D1.out Tryd.underlying38 (by rw [hla]; exact info38) ?_
      simp only [Act.put, List.setIfInBounds_toArray, List.set_cons_zero, List.set_cons_succ]
      refine still_get (by go_simp) (.tmp 3) 42 .u64 rfl g3 _ rfl D3.out Tryd.underlying42 info42 ?_
      simp only [Act.put, List.setIfInBounds_toArray, List.set_cons_zero, List.set_cons_succ]
      still_step
      still_step
      still_step
      refine wpStill_nil ?_
      clear hx
      go_wp2_with (first
        | ((with_reducible refine gate_callee (f := 32) rfl ?_); refine goesL_ (some 17) rfl rfl Tryd.func32 (by kernel_rfl) rfl #[.agg (nums .u64 (allL l k)).toArray, .agg (nums .u64 offL).toArray, .int .u64 rc] rfl (by (try simp only [List.map_toArray, List.map_cons, List.map_nil]); first | done | rfl) ?_; (with_reducible refine (AC.out _).mono ?_); rintro e wc ⟨rfl, BC⟩; refine ⟨_, rfl, ?_⟩)
        | ((with_reducible refine gate_store (t := 38) (p := 1) rfl ?_); refine A_put rfl (.tmp 1) _ rfl 38 .u64 rfl g1 (allL l k) (allL l (k + 1)) rfl rfl (D1.out.grown (below_grown BC) (by simp)) (by rw [allL_length, allL_length]) (by rw [allL_length, hl]; exact info38) ?_; intro wp Bp Gp))
      have ei := HI.out
      have ek := HK.out
      have ci := HR4.out.2
      go_roundg (gk - 1)
      case measure => omega
      case rel => exact ⟨k + 1, i + 1, ⟨by omega⟩, ⟨by omega⟩, rfl, ⟨Bp⟩, ⟨(D2.out.grown (below_grown BC) (by simp)).grown Gp (by have := D.out; simp; omega)⟩, ⟨(D3.out.grown (below_grown BC) (by simp)).grown Gp (by have := D.out; simp; omega)⟩, ⟨(D4.out.grown (below_grown BC) (by simp)).grown Gp (by have := D.out; simp; omega)⟩, ⟨grown_trans (grown_trans DG.out (below_grown BC) (by simp)) Gp (fun k hk => by obtain rfl := Option.some.inj hk; exact Or.inl (by have := D.out; omega))⟩⟩
    · have c0 : decide (i < 24) = false := decide_eq_false c
      have ek : k = 24 := by omega
      subst ek
      clear HK HI ei c
      go_wp2_with (first
        | ((with_reducible refine gate_dst (N := 18) rfl ?_); refine A_get rfl (.tmp 1) 38 .u64 rfl g1 _ rfl HB1.out Tryd.underlying38 (by rw [allL_length, hl]; exact info38) ?_)
        | ((with_reducible refine gate_store (t := 38) (p := 2) rfl ?_); refine A_put rfl (.tmp 2) _ rfl 38 .u64 rfl g2 (List.replicate 25 0) (allL l 24) rfl rfl HB2.out (by rw [allL_length, hl]; rfl) (by rw [allL_length, hl]; exact info38) ?_; intro wz Bz Gz))
      refine bodyPost_ret (results_cell_row (p := 2) (ty := 38) Tryd.results39 _ wz g2 38 _ (0, 0) _ rfl Bz Tryd.underlying38 rfl (by rw [info38]; simp [nums, allL_length, hl])) rfl ⟨rfl, ?_⟩
      exact grown_below (grown_trans HG.out Gz (fun k hk => by obtain rfl := Option.some.inj hk; exact Or.inl (by have := D.out; omega)))
end Go.Proofs.YtakejfhfkjnhlaaDoor.KW
