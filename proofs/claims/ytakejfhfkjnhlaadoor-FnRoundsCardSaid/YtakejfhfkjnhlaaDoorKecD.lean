/- Walk: the text of a state, as the program writes it. Conditions: none. -/
import Derived.Test.YtakejfhfkjnhlaaDoorKecC
import Derived.Test.YtakejfhfkjnhlaaDoorMakeCap
set_option linter.unusedVariables false
set_option linter.unusedSimpArgs false
namespace Go.Proofs.YtakejfhfkjnhlaaDoor.KW
open Go.RowKit Go.Proofs.YtakejfhfkjnhlaaDoorW.PrintWords Go.Proofs.YtakejfhfkjnhlaaDoorW.PrintLast Go.Proofs.YtakejfhfkjnhlaaDoorW.PrintMore
open Go.Proofs.YtakejfhfkjnhlaaDoor.M Go.Proofs.YtakejfhfkjnhlaaDoor.PFnExactKeccakRound
theorem impl_wordBytes_l0 : ∀ (d k x : Nat) (l : List Int), d ≤ 8 → d < k → l.length + d ≤ 1000 → impl_wordBytes.l0 k l x ((8 - d : Nat) : Int) = some (l ++ (leB d x).map fun (b : Nat) => (b : Int)) := by
  intro d
  induction d with
  | zero =>
    intro k x l _ hk _
    obtain ⟨k, rfl⟩ : ∃ m, k = m + 1 := ⟨k - 1, by omega⟩
    simp only [impl_wordBytes.l0]
    rw [if_neg (by omega)]
    simp [leB]
  | succ d ih =>
    intro k x l hd hk hl
    obtain ⟨k, rfl⟩ : ∃ m, k = m + 1 := ⟨k - 1, by omega⟩
    simp only [impl_wordBytes.l0]
    rw [if_pos (by omega), if_pos (by omega), wrap_nat' _ (by omega), show 8 - (d + 1) + 1 = 8 - d by omega, show (x : Int) / 256 = ((x / 256 : Nat) : Int) by omega]
    rw [ih k (x / 256) _ (by omega) (by omega) (by simp; omega)]
    simp [leB]
theorem textL_length (l : List Int) : (textL l).length = 8 * l.length := by rw [textL_range]; simp
theorem textL_take (l : List Int) (k : Nat) (hk : k < l.length) : textL (l.take (k + 1)) = textL (l.take k) ++ (leB 8 (rd l (k : Int)).toNat).map fun (b : Nat) => (b : Int) := by
  unfold textL
  rw [List.take_add_one, List.flatMap_append, rd_nat, List.getElem?_eq_getElem hk]
  simp
theorem wordBytes_val (l : List Int) (hW : AllW l) (k : Nat) (hk : k < l.length) (hl : l.length ≤ 25) : impl_wordBytes.f 9 (textL (l.take k)) (rd l (k : Int)) = some (textL (l.take (k + 1))) := by
  have h0 := hW (k : Int)
  have h := impl_wordBytes_l0 8 9 (rd l (k : Int)).toNat (textL (l.take k)) (by omega) (by omega) (by rw [textL_length, List.length_take]; omega)
  rw [Int.toNat_of_nonneg h0.1] at h
  rw [textL_take l k hk]
  exact h
set_option maxHeartbeats 8000000 in
set_option maxRecDepth 100000 in
theorem implText (l : List Int) (hl : l.length = 25) (hW : AllW l) (g : Nat) (w : World) (hb : Blk w g 46 .u64 l) : Calls Tryd.prog 38 #[.pointer (some ⟨g, 0, none⟩)] w fun e w' => e = .returned (.string (strOfNums (textL l))) ∧ Below w.heap.size w w' := by
  have hlt := Aside0.mk hb.lt
  go_enter Tryd.func38, Tryd.ntmps38
  go_wp2_with (first
    | ((with_reducible refine gate_dst (N := 6) rfl ?_); refine R_makecap0 (Kd.int .u8) (w0 := w) w.heap.size 5 rfl (N := 6) rfl 26 _ _ rfl 200 rfl rfl Tryd.underlying26 (.int .u8 0) 1 i5 rfl (by decide) (ok := fun _ => True) trivial (by omega) (by decide) (Below.refl _ _) (Nat.le_refl _) ?_; intro v6 w6 ho6 hb6 hg6))
  have HO := Aside0.mk ho6
  have HB := Aside0.mk hb6
  clear ho6 hb6 hg6
  go_loopg [3, 8] 25 (fun d v3 v8 w' => ∃ (k : Nat) (i : Int), Aside0 (k + d = 25) ∧ Aside0 (i = k) ∧ v8 = .int .i64 i ∧ Aside0 (Kd.R (Kd.int .u8) 5 w' w.heap.size (fun _ => True) v3 (textL (l.take k))) ∧ Aside0 (Below w.heap.size w w'))
  case atStart => exact ⟨0, 0, ⟨rfl⟩, ⟨rfl⟩, rfl, by rw [List.take_zero]; exact HO, HB⟩
  case round =>
    clear HO HB
    obtain ⟨k, i, HK, HI, rfl, HO, HB⟩ := hrel
    have ei := HI.out
    have ek := HK.out
    by_cases c : i < 25
    · have hiw : IntKind.i64.wrap (i + 1) = i + 1 := (i64_w _).trans (by unfold wrap64; omega)
      have hbk : Blk wr g 46 .u64 l := (HB.out.block g hlt.out).trans hb
      have hx := hbk.cell i (by omega) (by rw [hl]; omega)
      obtain ⟨x, hxx⟩ : ∃ x : Int, x = rd l i := ⟨_, rfl⟩
      rw [← hxx] at hx
      have AC : Aside0 (impl_wordBytes.f 9 (textL (l.take k)) x = some (textL (l.take (k + 1)))) := ⟨by rw [hxx, ei]; exact wordBytes_val l hW k (by omega) (by omega)⟩
      have c0 : decide (i < 25) = true := decide_eq_true c
      have p0 : (0 ≤ i) = True := eq_true (by omega)
      have q0 : (i < 25) = True := eq_true c
      clear hxx hbk ei ek c
      go_wp2_with (first
        | ((with_reducible refine gate_callee (f := 46) rfl ?_); refine goesL_ (some 15) rfl rfl Tryd.func46 (by kernel_rfl) rfl #[u3, .int .u64 x] rfl (by (try simp only [List.map_toArray, List.map_cons, List.map_nil]); first | done | rfl) ?_; (refine (impl_wordBytes.calls 9 (fun _ => True) u3 (textL (l.take k)) x _ w _ HB.out HO.out AC.out).mono ?_); rintro e w9 ⟨v114, rfl, ho0, hb9, hkp⟩; refine ⟨_, rfl, ?_⟩))
      have ei := HI.out
      have ek := HK.out
      have q0' := of_eq_true q0
      go_roundg (gk - 1)
      case measure => omega
      case rel => exact ⟨k + 1, i + 1, ⟨by omega⟩, ⟨by omega⟩, rfl, ⟨Kd.R_mono ho0 (fun _ _ => trivial)⟩, ⟨hb9⟩⟩
    · have c0 : decide (i < 25) = false := decide_eq_false c
      have ek : k = 25 := by omega
      subst ek
      have hcv := own_string (P := Tryd.prog) Tryd.underlying26 Tryd.underlying5 Tryd.underlying9 (Kd.own_of_R HO.out)
      rw [List.take_of_length_le (by omega)] at hcv
      clear HI HK ek c
      go_wp2
      go_ret
      exact ⟨rfl, HB.out⟩
end Go.Proofs.YtakejfhfkjnhlaaDoor.KW
