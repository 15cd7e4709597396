/- A local array of numbers: a block of memory, read and written; what is kept besides. Conditions: none. -/
import Derived.Test.YtakejfhfkjnhlaaDoorWMore
import Derived.Test.YtakejfhfkjnhlaaDoorWLast
import Derived.Test.YtakejfhfkjnhlaaDoorKecMath
set_option linter.unusedVariables false
namespace Go.Proofs.YtakejfhfkjnhlaaDoor.M
open Go.RowKit Go.Proofs.YtakejfhfkjnhlaaDoorW.PrintWords Go.Proofs.YtakejfhfkjnhlaaDoorW.PrintMore
def Blk (w : World) (b : Nat) (t : TypeId) (k : IntKind) (l : List Int) : Prop := w.heap[b]? = some (.cells (nums k l).toArray t (0, 0))
section
variable {w w' : World} {b : Nat} {t : TypeId} {k : IntKind} {l : List Int} {row : Option Nat}
theorem Blk.cell (h : Blk w b t k l) (j : Int) (h0 : 0 ≤ j) (h1 : j < l.length) : w.cell? ⟨b, j.toNat, none⟩ = some (.int k (rd l j)) := by
  rw [blk_cell h]
  have hl : j.toNat < l.length := by omega
  simp [nums, rd, List.getElem?_eq_getElem hl, List.getD_eq_getElem?_getD]
theorem Blk.frozen (h : Blk w b t k l) (j : Nat) : w.frozen? ⟨b, j, none⟩ = false := blk_frozen h j
theorem Blk.put (h : Blk w b t k l) (j : Nat) (x : Int) : Blk (w.setCell ⟨b, j, none⟩ (.int k x)) b t k (l.set j x) := by
  refine blk_put h j _ ?_
  simp [nums, List.map_set]
theorem Blk.far (h : Blk w b t k l) {p : Addr} (hp : b ≠ p.block) (u : Value) : Blk (w.setCell p u) b t k l := blk_far h hp u
theorem Blk.lt (h : Blk w b t k l) : b < w.heap.size := blk_lt h
theorem Blk.drewN (h : Blk w b t k l) (n : Nat) : Blk (w.drewN n) b t k l := h
theorem Blk.grown (h : Blk w b t k l) (hg : w.grownBy w' row) (hr : some b ≠ row) : Blk w' b t k l := (hg.block b h.lt hr).trans h
theorem Blk.alloc (h : Blk w b t k l) (o : Obj) : Blk (w.alloc o) b t k l := h.grown (World.grownBy_alloc w o none) (by simp)
theorem Blk.new (w : World) (t : TypeId) (k : IntKind) (l : List Int) : Blk (w.alloc (.cells (nums k l).toArray t)) w.heap.size t k l := heap_alloc_new w _
theorem grown_refl (w : World) (row : Option Nat) : w.grownBy w row := ⟨rfl, rfl, rfl, Nat.le_refl _, fun _ _ _ => rfl⟩
theorem grown_trans {w w1 w2 : World} {row row1 : Option Nat} (h : w.grownBy w1 row) (g : w1.grownBy w2 row1) (hr : ∀ k, row1 = some k → w.heap.size ≤ k ∨ row = some k) : w.grownBy w2 row :=
  ⟨g.os.trans h.os, g.tape.trans h.tape, g.output.trans h.output, Nat.le_trans h.size g.size, fun i hi hn => (g.block i (Nat.lt_of_lt_of_le hi h.size) (fun e => by
    rcases hr i e.symm with h1 | h1
    · omega
    · exact hn h1.symm)).trans (h.block i hi hn)⟩
theorem grown_set (h : w.grownBy w' row) (p : Addr) (u : Value) (hp : w.heap.size ≤ p.block ∨ row = some p.block) : w.grownBy (w'.setCell p u) row :=
  grown_trans h (row1 := some p.block) ⟨rfl, rfl, rfl, by simp [World.setCell], fun k _ hk => Below.heap_setCell _ _ _ _ (fun e => hk (by simp [e]))⟩ (fun k hk => by
    obtain rfl := Option.some.inj hk
    exact hp)
theorem grown_alloc (h : w.grownBy w' row) (o : Obj) : w.grownBy (w'.alloc o) row := grown_trans h (World.grownBy_alloc w' o none) (fun k hk => by cases hk)
theorem grown_drewN (h : w.grownBy w' row) (n : Nat) : w.grownBy (w'.drewN n) row := ⟨h.os, h.tape, h.output, h.size, h.block⟩
theorem grown_below (h : w.grownBy w' none) : Below w.heap.size w w' := ⟨h.os, h.tape, h.output, h.size, fun i hi => h.block i hi (by simp)⟩
theorem below_grown (h : Below w.heap.size w w') : w.grownBy w' none := grown_of_below h none
end
theorem bf_step {p : Nat → Nat} {v : Nat → Int} {l : List Int} {m : Nat} {i : Nat} {x : Int} (hi : i = p m) (hx : x = v m) : (bf p v l m).set i x = bf p v l (m + 1) := by rw [hi, hx]; rfl
section
variable {P : Program} {ops : Array Oper} {rest : List Oper} {o : Oper} {a : Act} {Q : Exit → Act → World → Prop} {W : World}
/-- a new array (a variable's, a box's) -/
theorem A_new (hgd : o.guard = none) {N : Tmp} (hd : o.dst = some N) (t : TypeId) (k : IntKind) (l : List Int)
    (hrun : (execOp a.eval o).run P W = .ok (.value (.pointer (some ⟨W.heap.size, 0, none⟩))) (W.alloc (.cells (nums k l).toArray t (0, 0))))
    (h : ∀ g w1, Aside0 (W.heap.size ≤ g) → Blk w1 g t k l → W.grownBy w1 none → wpList P ops Q rest (a.put o.dst (.pointer (some ⟨g, 0, none⟩))) w1) : wpList P ops Q (o :: rest) a W :=
  box_event hgd hd hrun (fun g hg w1 hb hB => h g w1 ⟨Nat.le_of_eq hg.symm⟩ hb (grown_of_below hB none))
/-- a whole array stored -/
theorem A_put (hgd : o.guard = none) (x y : Operand) (hN : o.dst = none) (t : TypeId) (k : IntKind) (ho : o.op = .store t x y) (g : Nat) (l l2 : List Int) (hx : a.eval x = .pointer (some ⟨g, 0, none⟩))
    (hy : a.eval y = .agg (nums k l2).toArray) (hb : Blk W g t k l) (hl : l.length = l2.length) (hi : (P.info? t).map (·.size) = some l2.length)
    (h : ∀ w1, Blk w1 g t k l2 → W.grownBy w1 (some g) → wpList P ops Q rest a w1) : wpList P ops Q (o :: rest) a W := by
  refine wpList_plain hgd fun K hK => ?_
  refine wp_store_row t x y ho g _ hx hy t _ hb (by rw [hi]; simp [nums]) (by simp [nums, hl]) (by simp [nums, Value.oneCell']) ?_
  rw [hN]
  refine hK _ _ (h _ (setRow_heap W g _ _ t _ hb) ⟨rfl, rfl, rfl, by simp, fun i _ hi => setRow_other W g i _ (fun e => hi (by rw [e]))⟩)
/-- a whole array loaded -/
theorem A_get (hgd : o.guard = none) (x : Operand) (t : TypeId) (k : IntKind) (ho : o.op = .load t x) (g : Nat) (l : List Int) (hx : a.eval x = .pointer (some ⟨g, 0, none⟩)) (hb : Blk W g t k l)
    {n e : Nat} (hu : P.underlying t = some (.array n e)) (hi : (P.info? t).map (·.size) = some l.length)
    (h : wpList P ops Q rest (a.put o.dst (.agg (nums k l).toArray)) W) : wpList P ops Q (o :: rest) a W :=
  wpList_load_row hgd t x ho g hx t _ (0, 0) _ hb hu rfl (by rw [hi]; simp [nums]) h
end
theorem made_nums (k : IntKind) (m : Nat) : madeCells #[Value.int k 0] m = (nums k (List.replicate m 0)).toArray := by
  apply Array.ext
  · simp [nums, madeCells]
  · intro i h1 h2
    simp [nums, madeCells, Nat.mod_one]
section
variable {P : Program} {ops : Array Oper} {rest : List Oper} {o : Oper} {a : Act} {Q : Exit → Act → World → Prop} {W : World}
/-- make([]T, n) of numbers -/
theorem A_make (hgd : o.guard = none) {N : Tmp} (_hd : o.dst = some N) (t e : TypeId) (x y : Operand) (ho : o.op = .makeSlice t x y) (k : IntKind) (bytes m : Nat) (hx : a.eval x = .int .i64 (m : Int)) (hy : a.eval y = .int .i64 (m : Int))
    (ht : P.underlying t = some (.slice e)) (hinfo : (P.info? e).map (fun i => (i.zero, i.size, i.bytes)) = some (some (.int k 0), 1, bytes)) (hb0 : 0 < bytes) (hn : m * bytes ≤ 281474976710656)
    (h : ∀ g w1, Aside0 (W.heap.size ≤ g) → Blk w1 g e k (List.replicate m 0) → W.grownBy w1 none → wpList P ops Q rest (a.put o.dst (.slice (some ⟨g, 0, none⟩) m m)) w1) : wpList P ops Q (o :: rest) a W := by
  have hr := print_make (P := P) t e k bytes ht hinfo hb0 m hn W
  rw [made_nums] at hr
  refine Kd.event_run hgd ?_ (h W.heap.size _ ⟨Nat.le_refl _⟩ (Blk.new W e k _) (World.grownBy_alloc W _ none))
  simp [execOp, ho, hx, hy, hr]
theorem Blk_own {w : World} {g : Nat} {e : TypeId} {k : IntKind} {l : List Int} (base : Nat) (hb : base ≤ g) (hl : l.length ≤ 9223372036854775807) (h : Blk w g e k l) : w.ownsRow base e 1 (.slice (some ⟨g, 0, none⟩) l.length l.length) l.length (nums k l) :=
  ⟨by simp [nums], .inr ⟨g, l.length, _, rfl, hb, h, Nat.le_refl _, by simpa [maxLen] using hl, by simp [nums], by simp only [nums, Nat.mul_one]; exact List.take_of_length_le (by simp)⟩⟩
theorem Blk_string {w : World} {g n : Nat} {src dst e : TypeId} {l : List Int} (hs : P.underlying src = some (.slice e)) (he : P.underlying e = some (.int .u8)) (hd : P.underlying dst = some .string) (h : Blk w g e .u8 l) (hn : l.length = n) (hl : n ≤ 9223372036854775807) :
    (convert src dst (.slice (some ⟨g, 0, none⟩) n n)).run P w = .ok (.string (strOfNums l)) w := by
  subst hn
  exact own_string hs he hd (Blk_own 0 (Nat.zero_le _) hl h)
end
theorem Blk_cells {P : Program} {w : World} {g n : Nat} {t : TypeId} {k : IntKind} {l : List Int} (h : Blk w g t k l) (hn : l.length = n) : (loadCellsFrom ⟨g, 0, none⟩ 0 n #[]).run P w = .ok (nums k l).toArray w := by
  subst hn
  have := run_loadCells_list (P := P) w ⟨g, 0, none⟩ (nums k l) (fun j v hv => by
    have hadd : (⟨g, 0, none⟩ : Addr).add j = ⟨g, j, none⟩ := by unfold Addr.add; split <;> simp_all
    rw [hadd, cell_of_row _ _ j _ t (0, 0) h]
    simpa using hv)
  rw [show (nums k l).length = l.length by simp [nums]] at this
  simpa [loadCells] using this
end Go.Proofs.YtakejfhfkjnhlaaDoor.M
