/- More of the row that []byte(s) makes: appended to. Conditions: none. -/
import Derived.Test.YtakejfhfkjnhlaaDoorRb
set_option linter.unusedVariables false
namespace Go.Proofs.YtakejfhfkjnhlaaDoor.M
open Go.RowKit Go.Proofs.YtakejfhfkjnhlaaDoorW.PrintWords Go.Proofs.YtakejfhfkjnhlaaDoorW.PrintMore
namespace Rb
/-- in the print's own spelling -/
abbrev R (_d : Kd Int) (e : Nat) (w : World) (base : Nat) (_ok : Nat → Prop) (v : Value) (xs : List Int) : Prop := Rb e w base v xs
variable {e base : Nat} {w W : World} {v : Value} {xs : List Int} {g n cap : Nat}
theorem R_alloc (h : Rb e w base v xs) (o : Obj) : Rb e (w.alloc o) base v xs := R_below h (below_alloc (Below.refl _ _) o)
theorem R_putg (h : Rb e W base (.slice (some ⟨g, 0, none⟩) n cap) xs) (i : Int) (x : Int) : Rb e (W.setCell ⟨g, i.toNat, none⟩ (.int .u8 x)) base (.slice (some ⟨g, 0, none⟩) n cap) (xs.set i.toNat x) ∧ W.grownBy (W.setCell ⟨g, i.toNat, none⟩ (.int .u8 x)) (some g) :=
  ⟨R_putn h i x, rfl, rfl, rfl, by simp [World.setCell], fun k _ hk => Below.heap_setCell _ _ _ _ (fun e => hk (by simp [e]))⟩
theorem run_room {P : Program} (w : World) (t ty e : TypeId) (i : TypeInfo) (ht : P.underlying t = some (.slice e)) (hi : P.info? e = some i) (hs : i.size = 1) (g n cap : Nat) (cells : Array Value) (fz : Nat × Nat)
    (hg : w.heap[g]? = some (.cells cells e fz)) (hn : n < cap) (hsz : cells.size = cap) (hfz : fz = (0, 0) ∨ cap ≤ fz.1) (a : Addr) (c : Nat) (u : Value) (hu : w.cell? (a.add 0) = some u) (h1 : u.oneCell' = true) :
    (Builtin.append_ #[t, t] ty #[.slice (some ⟨g, 0, none⟩) n cap, .slice (some a) 1 c]).run P w = .ok (.slice (some ⟨g, 0, none⟩) (n + 1) cap) (w.setCell ⟨g, n, none⟩ u) := by
  have hf := run_firstCells_some (P := P) w i.size 1 a 1 c [u] (by simp [hs]) (fun j x hj => by
    cases j with
    | zero => simp at hj; rw [← hj]; exact hu
    | succ j => simp at hj)
  have hst := run_storeCells_cells (P := P) g n [u] 0 w (fun j hj => by
      simp at hj
      rw [cell_of_row w g _ cells e fz hg, hj]
      simp
      omega) (fun j hj => by
      simp at hj
      obtain ⟨lo, hi'⟩ := fz
      simp only [World.frozen?, hg, Bool.and_eq_false_iff, decide_eq_false_iff_not]
      rcases hfz with h | h
      · right
        injection h with _ h
        omega
      · left
        simp only at h
        omega) (fun x hx => by simp at hx; rw [hx]; exact h1)
  simp only [Nat.add_zero, World.setCells] at hst
  have hroom : n + 1 ≤ cap := hn
  rw [hs] at hf
  simp [Builtin.append_, run_underlying ht, sizeOf, typeInfo, hi, hs, Builtin.lenOf, hroom, hf, Addr.add_lit, hst]
section
variable {P : Program} {ops : Array Oper} {rest : List Oper} {o : Oper} {a : Act} {Q : Exit → Act → World → Prop}
theorem R_append (d : Kd Int) {w0 W : World} (base : Nat) (hgd : o.guard = none) (s x : Operand) (t e : TypeId) (z : Value) (bytes : Nat)
    (ho : o.op = .call { callee := .builtin .append, args := #[s, x], argTypes := #[t, t] })
    (ht : P.underlying t = some (.slice e)) (hinfo : (P.info? e).map (fun i => (i.zero, i.size, i.bytes)) = some (some z, 1, bytes)) (hz : z.cells.size = 1) (hs0 : 0 < 1) (hb0 : 0 < bytes)
    (v : Value) (xs : List Int) (p : Int) (cs : List Value) (ok okp : Nat → Prop) (hs : a.eval s = v) (hx : a.eval x = .slice (some ⟨W.heap.size, 0, none⟩) 1 1) (hp : cs = [.int .u8 p]) (hokp : ∀ k, okp k → ok k ∧ some k ≠ v.ownBlock) (hfresh : ∀ k, W.heap.size ≤ k → ok k)
    (HO : Rb e W base v xs) (HB : Below base w0 W) (hbase : base ≤ W.heap.size) (hl : (xs.length + 1) * bytes ≤ 140737488355328)
    (h : ∀ v1 w1, Rb e w1 base v1 (xs ++ [p]) → Below base w0 w1 → W.grownBy w1 v.ownBlock → (v1.ownBlock = v.ownBlock ∨ ∃ b, v1.ownBlock = some b ∧ W.heap.size ≤ b) → wpList P ops Q rest (a.put o.dst v1) w1) :
    wpList P ops Q (o :: rest) a (W.alloc (.cells cs.toArray e)) := by
  subst hp
  obtain ⟨i0, hi, hzz⟩ := Option.map_eq_some_iff.1 hinfo
  simp only [Prod.mk.injEq] at hzz
  obtain ⟨hz0, hz1, hz2⟩ := hzz
  have hlen : xs.length + 1 ≤ 140737488355328 := Nat.le_trans (Nat.le_mul_of_pos_right _ hb0) hl
  have HO' := HO
  obtain ⟨g, cap, cells, fz, hv, h2, h3, h4, h5, h6, h7, h8⟩ := HO'
  subst hv
  have hglt : g < W.heap.size := (Array.getElem?_eq_some_iff.1 h3).1
  obtain ⟨W', hW'⟩ : ∃ W', W' = W.alloc (.cells [Value.int .u8 p].toArray e) := ⟨_, rfl⟩
  have hsize : W'.heap.size = W.heap.size + 1 := by rw [hW']; simp
  have h3' : W'.heap[g]? = some (.cells cells e fz) := by rw [hW']; exact (heap_alloc_old W _ hglt).trans h3
  have hnew : W'.cell? ((⟨W.heap.size, 0, none⟩ : Addr).add 0) = some (.int .u8 p) := by
    rw [add_plain, cell_of_row W' W.heap.size 0 _ e (0, 0) (by rw [hW']; exact heap_alloc_new W _)]
    rfl
  have hgW : W.grownBy W' none := by rw [hW']; exact World.grownBy_alloc W _ none
  have HB' : Below base w0 W' := by rw [hW']; exact HB.alloc hbase _
  rw [← hW']
  have fin : ∀ v1 w1, (Builtin.append_ #[t, t] o.type #[.slice (some ⟨g, 0, none⟩) xs.length cap, .slice (some ⟨W.heap.size, 0, none⟩) 1 1]).run P W' = .ok v1 w1 → Rb e w1 base v1 (xs ++ [p]) → W'.grownBy w1 (some g) → (v1.ownBlock = some g ∨ ∃ b, v1.ownBlock = some b ∧ W.heap.size ≤ b) → wpList P ops Q (o :: rest) a W' := by
    intro v1 w1 hr hR hg hat
    refine wpList_plain hgd fun K hK => ?_
    unfold Oper.wp execOp
    simp only [ho, resolve, invoke, builtin, Sem.run_bind, Sem.run_pure, Result.andThen_ok, List.map_toArray, List.map_cons, List.map_nil, hs, hx, hr]
    refine hK _ _ (h v1 w1 hR (HB'.grown hg (by omega) (fun k hk => by obtain rfl := Option.some.inj hk; exact h2)) ?_ hat)
    exact ⟨hg.os.trans hgW.os, hg.tape.trans hgW.tape, hg.output.trans hgW.output, Nat.le_trans hgW.size hg.size, fun k hk hne => (hg.block k (by omega) hne).trans (hgW.block k hk (by simp))⟩
  by_cases hroom : xs.length < cap
  · refine fin _ _ (run_room W' t o.type e i0 ht hi hz1 g xs.length cap cells fz h3' hroom h6 h7 _ 1 (.int .u8 p) hnew rfl) ?_ ⟨rfl, rfl, rfl, by simp [World.setCell], fun k _ hk => Below.heap_setCell _ _ _ _ (fun e => hk (by simp [e]))⟩ (Or.inl rfl)
    refine ⟨g, cap, cells.setIfInBounds xs.length (.int .u8 p), fz, by simp, h2, ?_, by simp; omega, h5, by simp [h6], h7, ?_⟩
    · simp [World.setCell, Array.getElem?_modify, h3']
    · rw [List.length_append, List.length_singleton, Array.toList_setIfInBounds, nums_append]
      have hlc : xs.length < cells.toList.length := by have h9 : cells.toList.length = cells.size := Array.length_toList; omega
      rw [List.take_add_one, List.take_set_of_le (Nat.le_refl _), h8, List.getElem?_set_self hlc]
      rfl
  · have holds : ∀ j u, (nums .u8 xs)[j]? = some u → W'.cell? ((⟨g, 0, none⟩ : Addr).add j) = some u := by
      intro j u hu
      have hj : j < xs.length := by
        have := (List.getElem?_eq_some_iff.1 hu).1
        simpa [nums] using this
      rw [add_plain, cell h3' h8 j hj]
      simp [nums, List.getElem?_eq_getElem hj] at hu
      rw [← hu]
      simp [List.getD_eq_getElem?_getD, List.getElem?_eq_getElem hj]
    have hr := run_append_grow (P := P) W' t o.type e i0 z ht hi hz0 ⟨g, 0, none⟩ xs.length cap (nums .u8 xs) (by simp [nums, hz1]) holds ⟨W.heap.size, 0, none⟩ 1 1 [.int .u8 p] (by simp [hz1]) (fun j u hu => by
      cases j with
      | zero => simp at hu; rw [← hu]; exact hnew
      | succ j => simp at hu) (by omega) (by omega) (growslice_fits (by omega) (by rw [hz2]; exact hl))
    have hge := grownCap_ge W' (xs.length + 1) cap e
    have hcm := grownCap_le_maxLen W' (xs.length + 1) cap e (by simp only [maxLen]; omega)
    refine fin _ _ hr ?_ ⟨rfl, rfl, rfl, by simp, fun k hk _ => heap_alloc_old W'.drew _ hk⟩ (Or.inr ⟨_, rfl, by show W.heap.size ≤ W'.heap.size; omega⟩)
    refine ⟨W'.heap.size, grownCap W' (xs.length + 1) cap e, _, (0, 0), by simp, by omega, heap_alloc_new W'.drew _, by simpa using hge, by simpa [maxLen] using hcm, ?_, Or.inl rfl, ?_⟩
    · simp only [Array.size_append, List.size_toArray, size_zeroCells, hz, nums_length, List.length_singleton]
      omega
    · simp only [Array.toList_append, List.append_assoc]
      rw [← List.append_assoc, List.take_left' (by simp [nums_length]), nums_append]
      rfl
end
end Rb
end Go.Proofs.YtakejfhfkjnhlaaDoor.M
