/- Plain arithmetic: the sum of two points of the curve y y = x x x + x modulo 12107 lies on it. Conditions: none. -/
import Derived.Test.YtfigfpfgeoadbaaFermat
namespace Go.Proofs.Ytfigfpfgeoadbaa.M
/-- the cubic of a line with slope l through (x1, y1), at x -/
def ff (l x1 y1 x : Int) : Int := x * x * x + x - (l * (x - x1) + y1) * (l * (x - x1) + y1)
theorem chord (l x1 y1 x2 x3 : Int) (h : x3 = l * l - x1 - x2) : (x2 - x1) * ff l x1 y1 x3 = (x3 - x1) * ff l x1 y1 x2 - (x3 - x2) * ff l x1 y1 x1 := by
  subst h
  unfold ff
  grind
theorem tangent (l x1 y1 x3 : Int) (h : x3 = l * l - x1 - x1) : ff l x1 y1 x3 = ff l x1 y1 x1 + (x3 - x1) * (3 * (x1 * x1) + 1 - l * (2 * y1)) := by
  subst h
  unfold ff
  grind
theorem ff_congr (l x1 y1 : Int) {x x' : Int} (h : x % 12107 = x' % 12107) : ff l x1 y1 x % 12107 = ff l x1 y1 x' % 12107 := by
  unfold ff
  have hl : (l * (x - x1) + y1) % 12107 = (l * (x' - x1) + y1) % 12107 := em_add (em_mul rfl (em_sub h rfl)) rfl
  exact em_sub (em_add (em_mul (em_mul h h) h) h) (em_mul hl hl)
/-- the slope of the line through two points that are no Zero -/
def slope (x1 y1 x2 y2 : Int) : Option Int :=
  if x1 = x2 then (if (y1 + y2) % 12107 = 0 then none else some ((3 * (x1 * x1) + 1) * (2 * y1) ^ 12105 % 12107)) else some ((y2 - y1) * (x2 - x1) ^ 12105 % 12107)
def third (l x1 y1 x2 : Int) : Int × Int × Bool :=
  ((l * l - x1 - x2) % 12107, (l * (x1 - (l * l - x1 - x2) % 12107) - y1) % 12107, false)
/-- the sum of two points -/
def addP (x1 y1 : Int) (z1 : Bool) (x2 y2 : Int) (z2 : Bool) : Int × Int × Bool :=
  if z1 = true then (x2, y2, z2) else if z2 = true then (x1, y1, z1) else
  match slope x1 y1 x2 y2 with
  | none => (0, 0, true)
  | some l => third l x1 y1 x2
structure On (x y : Int) : Prop where
  x0 : 0 ≤ x
  x1 : x < 12107
  y0 : 0 ≤ y
  y1 : y < 12107
  eq : y * y % 12107 = (x * x * x + x) % 12107
theorem okPoint_on {x y : Int} (h : okPoint x y false = true) : On x y := by
  unfold okPoint at h
  rw [if_neg (by simp)] at h
  have := of_decide_eq_true h
  exact ⟨this.1, this.2.1, this.2.2.1, this.2.2.2.1, this.2.2.2.2⟩
theorem on_okPoint {x y : Int} (h : On x y) : okPoint x y false = true := by
  unfold okPoint
  rw [if_neg (by simp)]
  exact decide_eq_true ⟨h.x0, h.x1, h.y0, h.y1, h.eq⟩
/-- two points with one X: their Y are the same or the other way round -/
theorem same_x {x y1 y2 : Int} (h : On x y1) (k : On x y2) : y1 = y2 ∨ (y1 + y2) % 12107 = 0 := by
  by_cases e : y1 = y2
  · exact Or.inl e
  · right
    refine no_zero (y1 - y2) (y1 + y2) ?_ ?_
    · have e2 : (y1 - y2) * (y1 + y2) = y1 * y1 - y2 * y2 := by grind
      rw [e2, em_sub h.eq k.eq, Int.sub_self]
      rfl
    · have := h.y0; have := h.y1; have := k.y0; have := k.y1
      omega
theorem upright_iff {x y1 y2 : Int} (h : On x y1) (k : On x y2) : (y1 + y2) % 12107 = 0 ↔ ¬ (y1 = y2 ∧ y1 ≠ 0) := by
  have a := h.y0; have b := h.y1; have c := k.y0; have d := k.y1
  constructor
  · rintro e ⟨rfl, hz⟩
    omega
  · intro e
    rcases same_x h k with rfl | e2
    · have : y1 = 0 := by
        by_cases hz : y1 = 0
        · exact hz
        · exact absurd ⟨rfl, hz⟩ e
      omega
    · exact e2
theorem third_on (l x1 y1 x2 : Int) (h : ff l x1 y1 (l * l - x1 - x2) % 12107 = 0) : On (third l x1 y1 x2).1 (third l x1 y1 x2).2.1 := by
  unfold third
  generalize hX : l * l - x1 - x2 = X at h ⊢
  have hc := ff_congr l x1 y1 (em_self X)
  rw [h] at hc
  generalize hx : X % 12107 = x at hc ⊢
  have hx0 : 0 ≤ x := by rw [← hx]; exact Int.emod_nonneg _ (by omega)
  have hx1 : x < 12107 := by rw [← hx]; exact Int.emod_lt_of_pos _ (by omega)
  refine ⟨hx0, hx1, Int.emod_nonneg _ (by omega), Int.emod_lt_of_pos _ (by omega), ?_⟩
  show (l * (x1 - x) - y1) % 12107 * ((l * (x1 - x) - y1) % 12107) % 12107 = _
  rw [emod_mul_l, emod_mul_r]
  have e : (l * (x1 - x) - y1) * (l * (x1 - x) - y1) = (x * x * x + x) - ff l x1 y1 x := by unfold ff; grind
  rw [e, Int.sub_emod, hc, Int.sub_zero, Int.emod_emod]
theorem two_ne {y : Int} (h0 : 0 ≤ y) (h1 : y < 12107) (hy : y ≠ 0) : (2 * y) % 12107 ≠ 0 := by omega
theorem sub_ne {x1 x2 : Int} (a0 : 0 ≤ x1) (a1 : x1 < 12107) (b0 : 0 ≤ x2) (b1 : x2 < 12107) (h : ¬ x1 = x2) : (x2 - x1) % 12107 ≠ 0 := by omega
theorem addP_ok (x1 y1 : Int) (z1 : Bool) (x2 y2 : Int) (z2 : Bool) (h : okPoint x1 y1 z1 = true) (k : okPoint x2 y2 z2 = true) :
    okPoint (addP x1 y1 z1 x2 y2 z2).1 (addP x1 y1 z1 x2 y2 z2).2.1 (addP x1 y1 z1 x2 y2 z2).2.2 = true := by
  unfold addP
  cases z1 with
  | true => exact k
  | false =>
    cases z2 with
    | true => exact h
    | false =>
      rw [if_neg (by simp), if_neg (by simp)]
      have A := okPoint_on h
      have B := okPoint_on k
      have f1 : ∀ l, ff l x1 y1 x1 % 12107 = 0 := by
        intro l
        have e : ff l x1 y1 x1 = (x1 * x1 * x1 + x1) - y1 * y1 := by unfold ff; grind
        rw [e, Int.sub_emod, A.eq, Int.sub_self]
        rfl
      have a0 := A.x0; have a1 := A.x1; have b0 := B.x0; have b1 := B.x1
      cases hs : slope x1 y1 x2 y2 with
      | none => rfl
      | some l =>
        refine on_okPoint (third_on l x1 y1 x2 ?_)
        unfold slope at hs
        by_cases hx : x1 = x2
        · subst hx
          rw [if_pos rfl] at hs
          by_cases hy : (y1 + y2) % 12107 = 0
          · rw [if_pos hy] at hs
            cases hs
          · rw [if_neg hy] at hs
            have hl := Option.some.inj hs
            have hyy := (not_congr (upright_iff A B)).1 hy
            have hy2 : y1 ≠ 0 := by
              intro e
              exact hyy (fun q => q.2 e)
            have h2 : (2 * y1) % 12107 ≠ 0 := two_ne A.y0 A.y1 hy2
            have hly : l * (2 * y1) % 12107 = (3 * (x1 * x1) + 1) % 12107 := by
              rw [← hl, emod_mul_l, Int.mul_assoc, Int.mul_comm ((2 * y1) ^ 12105), ← emod_mul_r, inv_mul _ h2, Int.mul_one]
            rw [tangent l x1 y1 _ rfl, Int.add_emod, f1, ← emod_mul_r, Int.sub_emod, hly, Int.sub_self]
            simp
        · rw [if_neg hx] at hs
          have hl := Option.some.inj hs
          have hd : (x2 - x1) % 12107 ≠ 0 := sub_ne a0 a1 b0 b1 hx
          have hly : l * (x2 - x1) % 12107 = (y2 - y1) % 12107 := by
            rw [← hl, emod_mul_l, Int.mul_assoc, Int.mul_comm ((x2 - x1) ^ 12105), ← emod_mul_r, inv_mul _ hd, Int.mul_one]
          have f2 : ff l x1 y1 x2 % 12107 = 0 := by
            have hq : (l * (x2 - x1) + y1) % 12107 = y2 % 12107 := by
              rw [em_add hly rfl, Int.sub_add_cancel]
            unfold ff
            rw [em_sub rfl (em_mul hq hq), Int.sub_emod, B.eq, Int.sub_self]
            rfl
          refine no_zero (x2 - x1) _ ?_ hd
          rw [chord l x1 y1 x2 _ rfl, Int.sub_emod, ← emod_mul_r, f2, ← emod_mul_r _ (ff l x1 y1 x1), f1]
          simp
def slopePair : Option Int → Int × Bool
  | none => (0, false)
  | some l => (l, true)
theorem tan_norm (x y : Int) : (3 * (x * x % 12107) % 12107 + 1) % 12107 * ((2 * y % 12107) ^ 12105 % 12107) % 12107 = (3 * (x * x) + 1) * (2 * y) ^ 12105 % 12107 := by
  rw [emod_mul_l, emod_mul_r]
  refine em_mul (em_add ?_ rfl) (emod_pow _ _ _)
  rw [em_self, emod_mul_r]
theorem chord_norm (x1 y1 x2 y2 : Int) : (y2 - y1) % 12107 * (((x2 - x1) % 12107) ^ 12105 % 12107) % 12107 = (y2 - y1) * (x2 - x1) ^ 12105 % 12107 := by
  rw [emod_mul_l, emod_mul_r]
  exact em_mul rfl (emod_pow _ _ _)
theorem third_norm (l x1 y1 x2 : Int) : (((l * l % 12107 - x1) % 12107 - x2) % 12107, (l * ((x1 - ((l * l % 12107 - x1) % 12107 - x2) % 12107) % 12107) % 12107 - y1) % 12107, false) = third l x1 y1 x2 := by
  have e : ((l * l % 12107 - x1) % 12107 - x2) % 12107 = (l * l - x1 - x2) % 12107 := by
    rw [Int.emod_sub_emod]
    exact em_sub (em_sub (em_self _) rfl) rfl
  rw [e]
  unfold third
  congr 2
  rw [Int.emod_sub_emod]
  exact em_sub (emod_mul_r _ _ _) rfl
def pointAdd (x1 y1 : Int) (z1 : Bool) (x2 y2 : Int) (z2 : Bool) : Int × Int × Bool :=
  if okPoint x1 y1 z1 = true ∧ okPoint x2 y2 z2 = true then addP x1 y1 z1 x2 y2 z2 else (0, 0, true)
/-- q and n times p, n below 2^d -/
def timesP : Nat → Int → Int × Int × Bool → Int × Int × Bool → Int × Int × Bool
  | 0, _, _, q => q
  | d + 1, n, p, q =>
    if n > 0 then (if n % 2 = 1 then timesP d (n / 2) (addP p.1 p.2.1 p.2.2 p.1 p.2.1 p.2.2) (addP q.1 q.2.1 q.2.2 p.1 p.2.1 p.2.2) else timesP d (n / 2) (addP p.1 p.2.1 p.2.2 p.1 p.2.1 p.2.2) q) else q
def inGroup (x y : Int) (z : Bool) : Bool := if okPoint x y z = true then (timesP 10 1009 (x, y, z) (0, 0, true)).2.2 else false
end Go.Proofs.Ytfigfpfgeoadbaa.M
