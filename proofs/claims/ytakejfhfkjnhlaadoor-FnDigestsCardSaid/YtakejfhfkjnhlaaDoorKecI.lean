/- Walks: all rounds, KeccakRound and KeccakF of the program; its two tables are laid. Conditions: none. -/
import Derived.Test.YtakejfhfkjnhlaaDoorKecH
set_option linter.unusedVariables false
set_option linter.unusedSimpArgs false
namespace Go.Proofs.YtakejfhfkjnhlaaDoor.KW
open Go.RowKit Go.Proofs.YtakejfhfkjnhlaaDoorW.PrintWords Go.Proofs.YtakejfhfkjnhlaaDoorW.PrintLast Go.Proofs.YtakejfhfkjnhlaaDoorW.PrintMore
open Go.Proofs.YtakejfhfkjnhlaaDoor.M Go.Proofs.YtakejfhfkjnhlaaDoor.PFnExactKeccakRound
theorem LaidW.two {w : World} (h : LaidW w) : 2 ≤ w.heap.size := by
  have := World.block_lt_of_cell? w _ (h.2 0 (by decide))
  exact this
set_option maxHeartbeats 8000000 in
set_option maxRecDepth 100000 in
theorem implRounds (l : List Int) (hl : l.length = 25) (hW : AllW l) (g : Nat) (w : World) (hb : Blk w g 46 .u64 l) (hL : LaidW w) (hg : 2 ≤ g) :
    Calls Tryd.prog 40 #[.pointer (some ⟨g, 0, none⟩)] w fun e w' => e = .returned (.tuple #[]) ∧ Blk w' g 46 .u64 (allL l 24) ∧ w.grownBy w' (some g) := by
  have LW : Aside0 (LaidW w) := ⟨hL⟩
  have GS : Aside0 (2 ≤ g) := ⟨hg⟩
  have X : Aside0 (Blk w g 46 .u64 (allL l 0)) := ⟨hb⟩
  have XG : Aside0 (w.grownBy w (some g)) := ⟨grown_refl w _⟩
  clear hb hL hg
  go_enter Tryd.func40, Tryd.ntmps40
  go_wp2
  go_loopg [3] 24 (fun d v w' => ∃ (k : Nat) (i : Int), Aside0 (k + d = 24) ∧ Aside0 (i = k) ∧ v = .int .i64 i ∧ Aside0 (Blk w' g 46 .u64 (allL l k)) ∧ Aside0 (w.grownBy w' (some g)))
  case atStart => exact ⟨0, 0, ⟨rfl⟩, ⟨rfl⟩, rfl, X, XG⟩
  case round =>
    clear X XG
    obtain ⟨k, i, HK, HI, rfl, HB, HG⟩ := hrel
    have ei := HI.out
    have ek := HK.out
    by_cases c : i < 24
    · have hiw : IntKind.i64.wrap (i + 1) = i + 1 := i64_at (by omega) (by omega)
      have HR : Aside0 (rndL (allL l k) (rd rcL i) = allL l (k + 1)) := ⟨by rw [ei]; rfl⟩
      have AC : Aside0 (Calls Tryd.prog 37 #[.pointer (some ⟨g, 0, none⟩), .int .i64 i] wr fun e w' => e = .returned (.tuple #[]) ∧ Blk w' g 46 .u64 (allL l (k + 1)) ∧ wr.grownBy w' (some g)) := ⟨by
        rw [← HR.out]
        exact implRound _ (by rw [allL_length, hl]) (AllW_all hW k) i (by omega) (by omega) g wr HB.out (LW.out.grown HG.out (by have := GS.out; simp; omega) (by have := GS.out; simp; omega)) GS.out⟩
      have c0 : decide (i < 24) = true := decide_eq_true c
      clear ei ek c
      go_wp2_with (first
        | ((with_reducible refine gate_callee (f := 37) rfl ?_); refine goesL_ (some 8) rfl rfl Tryd.func37 (by kernel_rfl) rfl #[.pointer (some ⟨g, 0, none⟩), .int .i64 i] rfl (by (try simp only [List.map_toArray, List.map_cons, List.map_nil]); first | done | rfl) ?_; (with_reducible refine (AC.out).mono ?_); rintro e wc ⟨rfl, BB, GG⟩; refine ⟨_, rfl, ?_⟩))
      have ei := HI.out
      have ek := HK.out
      have ci := of_decide_eq_true c0
      go_roundg (gk - 1)
      case measure => omega
      case rel => exact ⟨k + 1, i + 1, ⟨by omega⟩, ⟨by omega⟩, rfl, ⟨BB⟩, ⟨grown_trans HG.out GG (fun k hk => Or.inr hk)⟩⟩
    · have c0 : decide (i < 24) = false := decide_eq_false c
      have ek : k = 24 := by omega
      subst ek
      clear HK HI ei c
      go_wp2
      try simp only [Exit.inBlock, Exit.then]
      have hres : ∀ (T : Array Value) (W : World), (results Tryd.f40 T).run Tryd.prog W = .ok (.tuple #[]) W := fun T W => by first | rfl | kernel_rfl | simp [results, Tryd.results40, go_sem]
      exact ⟨rfl, .tuple #[], hres _ _, rfl, HB.out, HG.out⟩
set_option maxHeartbeats 8000000 in
set_option maxRecDepth 100000 in
theorem implKR (s : ByteArray) (n : Int) (w : World) (hL : LaidW w) : Calls Tryd.prog 13 #[.string s, .int .i64 n] w fun e w' => e = .returned (.string (krF s n)) ∧ Below w.heap.size w w' := by
  by_cases c1 : s.size = 200
  · obtain ⟨b1, b2⟩ := sized s c1
    by_cases c2 : n < 0
    · rw [show krF s n = s from if_neg (fun x => by omega)]
      have b3 : decide (n < 0) = true := decide_eq_true c2
      clear c1 c2
      go_enter Tryd.func13, Tryd.ntmps13
      go_wp2
      go_ret
      exact ⟨rfl, Below.refl _ _⟩
    · by_cases c3 : 23 < n
      · rw [show krF s n = s from if_neg (fun x => by omega)]
        have b3 : decide (n < 0) = false := decide_eq_false c2
        have b4 : decide (23 < n) = true := decide_eq_true c3
        clear c1 c2 c3
        go_enter Tryd.func13, Tryd.ntmps13
        go_wp2
        go_ret
        exact ⟨rfl, Below.refl _ _⟩
      · rw [show krF s n = strOfNums (textL (rndL (loadL s) (rd rcL n))) from if_pos ⟨c1, by omega, by omega⟩]
        have b3 : decide (n < 0) = false := decide_eq_false c2
        have b4 : decide (23 < n) = false := decide_eq_false c3
        have HN : Aside0 (0 ≤ n ∧ n ≤ 23) := ⟨by omega, by omega⟩
        have LW : Aside0 (LaidW w) := ⟨hL⟩
        have A1 : Aside0 (∀ W, Calls Tryd.prog 36 #[.string s] W fun e w' => e = .returned (.agg (nums .u64 (loadL s)).toArray) ∧ Below W.heap.size W w') := ⟨implLoad s c1⟩
        clear c1 c2 c3 hL
        go_enter Tryd.func13, Tryd.ntmps13
        go_wp2_with (first
          | ((with_reducible refine gate_callee (f := 36) rfl ?_); refine goesL_ (some 19) rfl rfl Tryd.func36 (by kernel_rfl) rfl #[.string s] rfl (by (try simp only [List.map_toArray, List.map_cons, List.map_nil]); first | done | rfl) ?_; (with_reducible refine (A1.out _).mono ?_); rintro e wa ⟨rfl, BA⟩; refine ⟨_, rfl, ?_⟩)
          | ((with_reducible refine gate_dst (N := 5) rfl ?_); refine A_new rfl (N := 5) rfl 46 .u64 (List.replicate 25 0) (by first | (go_simp; done) | (go_simp; rfl)) ?_; intro g5 w5 e5 B5 G5)
          | ((with_reducible refine gate_store (t := 46) (p := 5) rfl ?_); refine A_put rfl (.tmp 5) _ rfl 46 .u64 rfl g5 (List.replicate 25 0) (loadL s) rfl rfl B5 (by rw [loadL_length]; rfl) (by rw [loadL_length]; exact info46) ?_; intro w6 B6 G6)
          | ((with_reducible refine gate_callee (f := 37) rfl ?_); refine goesL_ (some 21) rfl rfl Tryd.func37 (by kernel_rfl) rfl #[.pointer (some ⟨g5, 0, none⟩), .int .i64 n] rfl (by (try simp only [List.map_toArray, List.map_cons, List.map_nil]); first | done | rfl) ?_; (with_reducible refine (implRound _ (loadL_length s) (AllW_load s) n HN.out.1 HN.out.2 g5 w6 B6 (((LW.out.grown (below_grown BA) (by simp) (by simp)).grown G5 (by simp) (by simp)).grown G6 (by have := LW.out.two; have := e5.out; have := BA.size; simp; omega) (by have := LW.out.two; have := e5.out; have := BA.size; simp; omega)) (by have := LW.out.two; have := e5.out; have := BA.size; omega)).mono ?_); rintro e w7 ⟨rfl, B7, G7⟩; refine ⟨_, rfl, ?_⟩)
          | ((with_reducible refine gate_callee (f := 38) rfl ?_); refine goesL_ (some 22) rfl rfl Tryd.func38 (by kernel_rfl) rfl #[.pointer (some ⟨g5, 0, none⟩)] rfl (by (try simp only [List.map_toArray, List.map_cons, List.map_nil]); first | done | rfl) ?_; (with_reducible refine (implText _ (by rw [rndL_length, loadL_length]) (AllW_rnd (AllW_load s) _) g5 w7 B7).mono ?_); rintro e w8 ⟨rfl, B8⟩; refine ⟨_, rfl, ?_⟩))
        go_ret
        refine ⟨rfl, grown_below ?_⟩
        have hge : w.heap.size ≤ g5 := by have := e5.out; have := BA.size; omega
        exact grown_trans (grown_trans (grown_trans (grown_trans (below_grown BA) G5 (by simp)) G6 (fun k hk => by obtain rfl := Option.some.inj hk; exact Or.inl hge)) G7 (fun k hk => by obtain rfl := Option.some.inj hk; exact Or.inl hge)) (below_grown B8) (by simp)
  · obtain ⟨b1, b2⟩ := unsized s c1
    rw [show krF s n = s from if_neg (fun x => c1 x.1)]
    clear c1
    go_enter Tryd.func13, Tryd.ntmps13
    go_wp2
    go_ret
    exact ⟨rfl, Below.refl _ _⟩
set_option maxHeartbeats 8000000 in
set_option maxRecDepth 100000 in
theorem implKF (s : ByteArray) (w : World) (hL : LaidW w) : Calls Tryd.prog 15 #[.string s] w fun e w' => e = .returned (.string (kfF s)) ∧ Below w.heap.size w w' := by
  by_cases c1 : s.size = 200
  · obtain ⟨b1, b2⟩ := sized s c1
    rw [show kfF s = strOfNums (textL (allL (loadL s) 24)) from if_pos c1]
    have LW : Aside0 (LaidW w) := ⟨hL⟩
    have A1 : Aside0 (∀ W, Calls Tryd.prog 36 #[.string s] W fun e w' => e = .returned (.agg (nums .u64 (loadL s)).toArray) ∧ Below W.heap.size W w') := ⟨implLoad s c1⟩
    clear c1 hL
    go_enter Tryd.func15, Tryd.ntmps15
    go_wp2_with (first
      | ((with_reducible refine gate_callee (f := 36) rfl ?_); refine goesL_ (some 9) rfl rfl Tryd.func36 (by kernel_rfl) rfl #[.string s] rfl (by (try simp only [List.map_toArray, List.map_cons, List.map_nil]); first | done | rfl) ?_; (with_reducible refine (A1.out _).mono ?_); rintro e wa ⟨rfl, BA⟩; refine ⟨_, rfl, ?_⟩)
      | ((with_reducible refine gate_dst (N := 3) rfl ?_); refine A_new rfl (N := 3) rfl 46 .u64 (List.replicate 25 0) (by first | (go_simp; done) | (go_simp; rfl)) ?_; intro g5 w5 e5 B5 G5)
      | ((with_reducible refine gate_store (t := 46) (p := 3) rfl ?_); refine A_put rfl (.tmp 3) _ rfl 46 .u64 rfl g5 (List.replicate 25 0) (loadL s) rfl rfl B5 (by rw [loadL_length]; rfl) (by rw [loadL_length]; exact info46) ?_; intro w6 B6 G6)
      | ((with_reducible refine gate_callee (f := 40) rfl ?_); refine goesL_ (some 10) rfl rfl Tryd.func40 (by kernel_rfl) rfl #[.pointer (some ⟨g5, 0, none⟩)] rfl (by (try simp only [List.map_toArray, List.map_cons, List.map_nil]); first | done | rfl) ?_; (with_reducible refine (implRounds _ (loadL_length s) (AllW_load s) g5 w6 B6 (((LW.out.grown (below_grown BA) (by simp) (by simp)).grown G5 (by simp) (by simp)).grown G6 (by have := LW.out.two; have := e5.out; have := BA.size; simp; omega) (by have := LW.out.two; have := e5.out; have := BA.size; simp; omega)) (by have := LW.out.two; have := e5.out; have := BA.size; omega)).mono ?_); rintro e w7 ⟨rfl, B7, G7⟩; refine ⟨_, rfl, ?_⟩)
      | ((with_reducible refine gate_callee (f := 38) rfl ?_); refine goesL_ (some 11) rfl rfl Tryd.func38 (by kernel_rfl) rfl #[.pointer (some ⟨g5, 0, none⟩)] rfl (by (try simp only [List.map_toArray, List.map_cons, List.map_nil]); first | done | rfl) ?_; (with_reducible refine (implText _ (by rw [allL_length, loadL_length]) (AllW_all (AllW_load s) _) g5 w7 B7).mono ?_); rintro e w8 ⟨rfl, B8⟩; refine ⟨_, rfl, ?_⟩))
    go_ret
    refine ⟨rfl, grown_below ?_⟩
    have hge : w.heap.size ≤ g5 := by have := e5.out; have := BA.size; omega
    exact grown_trans (grown_trans (grown_trans (grown_trans (below_grown BA) G5 (by simp)) G6 (fun k hk => by obtain rfl := Option.some.inj hk; exact Or.inl hge)) G7 (fun k hk => by obtain rfl := Option.some.inj hk; exact Or.inl hge)) (below_grown B8) (by simp)
  · obtain ⟨b1, b2⟩ := unsized s c1
    rw [show kfF s = s from if_neg c1]
    clear c1
    go_enter Tryd.func15, Tryd.ntmps15
    go_wp2
    go_ret
    exact ⟨rfl, Below.refl _ _⟩
end Go.Proofs.YtakejfhfkjnhlaaDoor.KW
