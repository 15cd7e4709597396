/- The row that []byte(s) makes: its block bears a mark behind its cells; read, written and turned back as a row of one's own. Conditions: none. -/
import Derived.Test.YtakejfhfkjnhlaaDoorWMore
import Derived.Test.YtakejfhfkjnhlaaDoorWLast
import Derived.Lib.ConvBytes
set_option linter.unusedVariables false
namespace Go.Proofs.YtakejfhfkjnhlaaDoor.M
open Go.RowKit Go.Proofs.YtakejfhfkjnhlaaDoorW.PrintWords Go.Proofs.YtakejfhfkjnhlaaDoorW.PrintMore
/-- v is a slice of bytes xs over a block of its own, marked or not behind its capacity -/
def Rb (e : Nat) (w : World) (base : Nat) (v : Value) (xs : List Int) : Prop :=
  ∃ g cap cells fz, v = .slice (some ⟨g, 0, none⟩) xs.length cap ∧ base ≤ g ∧ w.heap[g]? = some (.cells cells e fz) ∧ xs.length ≤ cap ∧ cap ≤ 9223372036854775807 ∧ cells.size = cap ∧ (fz = (0, 0) ∨ cap ≤ fz.1) ∧ cells.toList.take xs.length = nums .u8 xs
namespace Rb
variable {e base base' : Nat} {w w1 W : World} {v : Value} {xs : List Int} {g n cap : Nat}
theorem R_lower (h : Rb e w base v xs) (hb : base' ≤ base) : Rb e w base' v xs := by
  obtain ⟨g, cap, cells, fz, h1, h2, h3⟩ := h
  exact ⟨g, cap, cells, fz, h1, Nat.le_trans hb h2, h3⟩
theorem R_below (h : Rb e w base v xs) (hb : Below w.heap.size w w1) : Rb e w1 base v xs := by
  obtain ⟨g, cap, cells, fz, h1, h2, h3, h4⟩ := h
  exact ⟨g, cap, cells, fz, h1, h2, (hb.block g (Array.getElem?_eq_some_iff.1 h3).1).trans h3, h4⟩
theorem R_grown {row : Option Nat} (h : Rb e w base v xs) (hg : w.grownBy w1 row) (hr : ∀ k, v.ownBlock = some k → some k ≠ row) : Rb e w1 base v xs := by
  obtain ⟨g, cap, cells, fz, h1, h2, h3, h4⟩ := h
  exact ⟨g, cap, cells, fz, h1, h2, (hg.block g (Array.getElem?_eq_some_iff.1 h3).1 (hr g (by rw [h1]; rfl))).trans h3, h4⟩
theorem R_drew (h : Rb e w base v xs) : Rb e w.drew base v xs := h
theorem R_drewN (h : Rb e w base v xs) (m : Nat) : Rb e (w.drewN m) base v xs := h
theorem R_slice (h : Rb e w base v xs) : ∃ A c, v = .slice A xs.length c := by
  obtain ⟨g, cap, cells, fz, h1, _⟩ := h
  exact ⟨_, cap, h1⟩
theorem cell {cells : Array Value} {fz : Nat × Nat} (h : w.heap[g]? = some (.cells cells e fz)) (ht : cells.toList.take xs.length = nums .u8 xs) (j : Nat) (hj : j < xs.length) : w.cell? ⟨g, j, none⟩ = some (.int .u8 (xs.getD j 0)) := by
  rw [cell_of_row w g j cells e fz h]
  have h2 : (cells.toList.take xs.length)[j]? = (nums .u8 xs)[j]? := by rw [ht]
  rw [List.getElem?_take, if_pos hj, Array.getElem?_toList] at h2
  rw [h2]
  simp [nums, List.getElem?_eq_getElem hj, List.getD_eq_getElem?_getD]
theorem reads {A : Option Addr} {c : Nat} (h : Rb e w base (.slice A n c) xs) : ReadsInt w .u8 A xs.length xs := by
  obtain ⟨g, cap, cells, fz, h1, h2, h3, h4, h5, h6, h7, h8⟩ := h
  injection h1 with ha hn hc
  subst ha
  refine ⟨rfl, by omega, fun _ => ⟨_, rfl, fun j hj => ?_⟩⟩
  rw [add_plain]
  exact cell h3 h8 j hj
theorem R_reads' {A : Option Addr} {c : Nat} (h : Rb e w base (.slice A n c) xs) : n = xs.length ∧ n ≤ c ∧ (Kd.int .u8).C w A xs.length xs := by
  have hr := reads h
  obtain ⟨g, cap, cells, fz, h1, h2, h3, h4, h5, h6, h7, h8⟩ := h
  injection h1 with ha hn hc
  exact ⟨hn, by omega, Kd.C_of_reads (h1 := fun _ => rfl) hr⟩
theorem R_form (h : Rb e w base v xs) (hp : 0 < xs.length) : ∃ g cap, v = .slice (some ⟨g, 0, none⟩) xs.length cap ∧ base ≤ g ∧ g < w.heap.size ∧ ∃ cz : Array Value × (Nat × Nat), w.heap[g]? = some (.cells cz.1 e cz.2) := by
  obtain ⟨g, cap, cells, fz, h1, h2, h3, _⟩ := h
  exact ⟨g, cap, h1, h2, (Array.getElem?_eq_some_iff.1 h3).1, (cells, fz), h3⟩
theorem R_celln (d : Int) (h : Rb e W base (.slice (some ⟨g, 0, none⟩) n cap) xs) (i : Int) (h0 : 0 ≤ i) (hi : i < xs.length) : W.cell? ⟨g, i.toNat, none⟩ = some (.int .u8 (rd xs i)) ∧ W.frozen? ⟨g, i.toNat, none⟩ = false := by
  obtain ⟨g', cap', cells, fz, h1, h2, h3, h4, h5, h6, h7, h8⟩ := h
  injection h1 with ha hn hc
  injection ha with ha
  injection ha with hg
  subst hg
  refine ⟨cell h3 h8 i.toNat (by omega), ?_⟩
  obtain ⟨lo, hi'⟩ := fz
  simp only [World.frozen?, h3, Bool.and_eq_false_iff, decide_eq_false_iff_not]
  rcases h7 with h7 | h7
  · right
    injection h7 with _ h7
    omega
  · left
    simp only at h7
    omega
theorem R_putn (h : Rb e W base (.slice (some ⟨g, 0, none⟩) n cap) xs) (i : Int) (x : Int) : Rb e (W.setCell ⟨g, i.toNat, none⟩ (.int .u8 x)) base (.slice (some ⟨g, 0, none⟩) n cap) (xs.set i.toNat x) := by
  obtain ⟨g', cap', cells, fz, h1, h2, h3, h4, h5, h6, h7, h8⟩ := h
  injection h1 with ha hn hc
  injection ha with ha
  injection ha with hg
  subst hg
  refine ⟨g, cap', cells.setIfInBounds i.toNat (.int .u8 x), fz, by rw [List.length_set, hn, hc], h2, ?_, by rw [List.length_set]; exact h4, h5, by simp [h6], h7, ?_⟩
  · simp [World.setCell, Array.getElem?_modify, h3]
  · rw [List.length_set, Array.toList_setIfInBounds, List.take_set, h8]
    simp [nums, List.map_set]
theorem own_string {P : Program} {src dst e' : TypeId} {v : Value} (hs : P.underlying src = some (.slice e')) (he : P.underlying e' = some (.int .u8)) (hd : P.underlying dst = some .string) (h : Rb e w base v xs) : (convert src dst v).run P w = .ok (.string (strOfNums xs)) w := by
  obtain ⟨g, cap, cells, fz, rfl, h2, h3, h4, h5, h6, h7, h8⟩ := h
  refine run_convert_bytes_arg w src e' hs he g 0 xs.length cap xs rfl (fun i hi => ?_) dst hd
  rw [Nat.zero_add]
  exact cell h3 h8 i hi
/-- another row is none of this block: its type is another -/
theorem R_types {α : Type} {d : Kd α} {e0 : Nat} {ok : Nat → Prop} {u : Value} {ys : List α} (h : d.R e0 w base ok u ys) {t : Nat} {cells : Array Value} {fz : Nat × Nat} (hb : w.heap[g]? = some (.cells cells t fz)) (ht : ∀ q, q ∈ e0 :: d.E → q ≠ t) : d.R e0 w base (fun k => ok k ∧ k ≠ g) u ys :=
  Kd.R_mono (Kd.R_bound h) fun k hk => ⟨hk.1, fun ek => by
    obtain ⟨q, hq, cells', hc⟩ := hk.2.2.2
    rw [ek, hb] at hc
    injection hc with hc
    injection hc with _ hc _
    exact ht q hq hc.symm⟩
end Rb
section
variable {P : Program} {ops : Array Oper} {rest : List Oper} {o : Oper} {a : Act} {Q : Exit → Act → World → Prop}
/-- []byte(s) -/
theorem R_bytes0 {w0 W : World} (base e : Nat) (hgd : o.guard = none) {N : Tmp} (_hd : o.dst = some N) (src dst : TypeId) (x : Operand) (ho : o.op = .convert src dst x) (s : ByteArray) (hx : a.eval x = .string s)
    {u : TypeDesc} (hs : P.underlying src = some u) (hd : P.underlying dst = some (.slice e)) (he : P.underlying e = some (.int .u8)) (hsz : (s.size : Int) ≤ 140737488355328) (HB : Below base w0 W) (hbase : base ≤ W.heap.size)
    (h : ∀ v1 w1, Rb e w1 base v1 (bytesOf s) → Below base w0 w1 → W.grownBy w1 none → wpList P ops Q rest (a.put o.dst v1) w1) : wpList P ops Q (o :: rest) a W := by
  have hr := Lib.run_convert_string_bytes W src dst e s hs hd he
  have hge := grownCap_ge W s.size 0 e
  have hcm := grownCap_le_maxLen W s.size 0 e (by simp only [maxLen]; omega)
  have hsize : (Lib.bytesCells W e s).size = grownCap W s.size 0 e := by
    unfold Lib.bytesCells
    have h1 : s.data.size = s.size := rfl
    simp only [Array.size_append, Array.size_map, Array.size_replicate, h1]
    omega
  refine Kd.event_run hgd (v := .slice (some ⟨W.heap.size, 0, none⟩) s.size (grownCap W s.size 0 e)) (w1 := Lib.bytesWorld W e s) (by simp [execOp, ho, hx, hr]) (h _ _ ?_ (bytes_below HB hbase e s) (grown_of_below (bytes_below (Below.refl _ _) (Nat.le_refl _) e s) none))
  refine ⟨W.heap.size, grownCap W s.size 0 e, _, _, by rw [bytesOf_length], hbase, Lib.bytesWorld_at_new W e s, by rw [bytesOf_length]; exact hge, by simpa [maxLen] using hcm, hsize, Or.inr (by rw [hsize]; exact Nat.le_refl _), ?_⟩
  rw [bytesOf_length]
  unfold Lib.bytesCells
  rw [Array.toList_append, List.take_left' (by simp)]
  simp [nums, bytesOf]
end
end Go.Proofs.YtakejfhfkjnhlaaDoor.M
