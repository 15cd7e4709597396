/- Plain arithmetic: a state written out and read again is the state; rounds one after another are the permutation. Conditions: none. -/
import Derived.Test.YtakejfhfkjnhlaaDoorKec
namespace Go.Proofs.YtakejfhfkjnhlaaDoor.M
open Go.RowKit Go.Proofs.YtakejfhfkjnhlaaDoorW.PrintWords Go.Proofs.YtakejfhfkjnhlaaDoorW.PrintMore
theorem leB8 (x : Nat) : leB 8 x = (List.range 8).map fun j => x / 256 ^ j % 256 := by
  simp [leB, List.range_succ, Nat.div_div_eq_div_mul]
theorem byteNs_text (l : List Int) : byteNs (strOfNums (textL l)) = (List.range (8 * l.length)).map fun j => (rd l ((j / 8 : Nat) : Int)).toNat / 256 ^ (j % 8) % 256 := by
  rw [textL_range, show ((List.range (8 * l.length)).map fun j => (((rd l ((j / 8 : Nat) : Int)).toNat / 256 ^ (j % 8) % 256 : Nat) : Int)) = ((List.range (8 * l.length)).map fun j => (rd l ((j / 8 : Nat) : Int)).toNat / 256 ^ (j % 8) % 256).map (fun (b : Nat) => (b : Int)) by rw [List.map_map]; rfl]
  apply byteNs_str
  intro x hx
  obtain ⟨j, _, rfl⟩ := List.mem_map.mp hx
  exact Nat.mod_lt _ (by decide)
theorem text_size (l : List Int) : (strOfNums (textL l)).size = 8 * l.length := by
  rw [strOfNums_size, textL_range, List.length_map, List.length_range]
theorem word_text (l : List Int) (hw : AllW l) (i : Nat) (hi : i < l.length) : wordN (strOfNums (textL l)) (8 * i) = (rd l (i : Int)).toNat := by
  have hx := hw (i : Int)
  unfold wordN
  rw [show ((List.range 8).map fun j => (bt (strOfNums (textL l)) ((8 * i + j : Nat) : Int)).toNat) = leB 8 (rd l (i : Int)).toNat from ?_]
  · exact leV_leB 8 _ (by have := hx.1; have := hx.2; omega)
  rw [leB8]
  apply List.map_congr_left
  intro j hj
  have hj8 : j < 8 := List.mem_range.mp hj
  rw [bt_bytes _ _ (by rw [text_size]; omega), Int.toNat_natCast]
  simp only [byteNs_text, List.getElem_map, List.getElem_range]
  rw [show (8 * i + j) / 8 = i by omega, show (8 * i + j) % 8 = j by omega]
theorem load_text (l : List Int) (hl : l.length = 25) (hw : AllW l) : loadL (strOfNums (textL l)) = l := by
  rw [loadL, bf_all]
  conv => rhs; rw [rd_range l, hl]
  apply List.map_congr_left
  intro i hi
  have h25 : i < 25 := List.mem_range.mp hi
  show ((wordN (strOfNums (textL l)) (8 * i) : Nat) : Int) = _
  rw [word_text l hw i (by omega)]
  have := (hw (i : Int)).1
  omega
end Go.Proofs.YtakejfhfkjnhlaaDoor.M
