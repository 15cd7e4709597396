/- Plain arithmetic: reading a number out of bytes of seven bits, and that only its shortest form is read. Conditions: none. -/
import Derived.Test.YtfigfpfgeoadbaaDoorVar
namespace Go.Proofs.YtfigfpfgeoadbaaDoor.M
open Go.RowKit Go.Proofs.YtfigfpfgeoadbaaDoorW.PrintWords
theorem toList_loop (s : ByteArray) : ∀ (d i : Nat) (r : List UInt8), i + d = s.size → ByteArray.toList.loop s i r = r.reverse ++ s.data.toList.drop i := by
  intro d
  induction d with
  | zero =>
    intro i r h
    unfold ByteArray.toList.loop
    rw [if_neg (by omega), List.drop_eq_nil_of_le (by rw [Array.length_toList]; show s.size ≤ i; omega), List.append_nil]
  | succ d ih =>
    intro i r h
    unfold ByteArray.toList.loop
    rw [if_pos (by omega), ih (i + 1) _ (by omega)]
    have hl : i < s.data.toList.length := by rw [Array.length_toList]; show i < s.size; omega
    rw [List.drop_eq_getElem_cons hl, List.reverse_cons, List.append_assoc]
    have e : s.get! i = s.data.toList[i] := by
      show s.data[i]! = _
      rw [getElem!_pos s.data i (by show i < s.size; omega)]
      simp
    rw [e]
    rfl
theorem toList_eq (s : ByteArray) : s.toList = s.data.toList := by
  have h := toList_loop s s.size 0 [] (by omega)
  simpa [ByteArray.toList] using h
theorem map_toNat_inj : ∀ (l m : List UInt8), l.map (·.toNat) = m.map (·.toNat) → l = m
  | [], [], _ => rfl
  | [], _ :: _, h => by simp at h
  | _ :: _, [], h => by simp at h
  | a :: l, b :: m, h => by
    simp only [List.map_cons, List.cons.injEq] at h
    rw [map_toNat_inj l m h.2, UInt8.toNat_inj.1 h.1]
theorem toList_iff (s t : ByteArray) : s.toList = t.toList ↔ byteNs s = byteNs t := by
  rw [toList_eq, toList_eq]
  exact ⟨fun h => by unfold byteNs; rw [h], fun h => map_toNat_inj _ _ h⟩
theorem byteNs_inj {s t : ByteArray} (h : byteNs s = byteNs t) : s = t := by
  have := map_toNat_inj _ _ h
  cases s; cases t
  simp only at this
  rw [Array.toList_inj.1 this]
theorem byteNs_extract (s : ByteArray) (a b : Nat) : byteNs (s.extract a b) = ((byteNs s).drop a).take (b - a) := by
  unfold byteNs
  rw [ByteArray.data_extract, Array.toList_extract, List.extract_eq_take_drop]
  simp
theorem byteNs_append (s t : ByteArray) : byteNs (s ++ t) = byteNs s ++ byteNs t := by
  unfold byteNs
  simp
theorem byteNs_str : ∀ (l : List Nat), (∀ x ∈ l, x < 256) → byteNs (strOfNums (l.map fun (b : Nat) => (b : Int))) = l := by
  intro l h
  unfold byteNs
  rw [strOfNums_data]
  simp only [List.map_map]
  induction l with
  | nil => rfl
  | cons a l ih =>
    rw [List.map_cons, ih (fun x hx => h x (by simp [hx]))]
    congr 1
    have := h a (by simp)
    simp
    omega
theorem varL_lt : ∀ (n : Nat), ∀ x ∈ varL n, x < 256 := by
  intro n
  induction n using Nat.strongRecOn with
  | _ n ih =>
    by_cases h : n < 128
    · rw [varL_small n h]
      intro x hx
      simp at hx
      omega
    · rw [varL_great n (by omega)]
      intro x hx
      rcases List.mem_cons.1 hx with rfl | hx
      · omega
      · exact ih (n / 128) (by omega) x hx
theorem byteNs_var (n : Nat) : byteNs (strOfNums (varNums n)) = varL n := byteNs_str _ (varL_lt n)
/-- the number of some bytes, the lowest first -/
def valL : List Nat → Nat
  | [] => 0
  | b :: l => b % 128 + 128 * valL l
theorem valL_snoc : ∀ (P : List Nat) (b : Nat), valL (P ++ [b]) = valL P + b % 128 * 128 ^ P.length
  | [], b => by simp [valL]
  | x :: P, b => by
    show x % 128 + 128 * valL (P ++ [b]) = x % 128 + 128 * valL P + b % 128 * 128 ^ (P.length + 1)
    rw [valL_snoc P b, Nat.pow_succ, Nat.mul_add, ← Nat.mul_assoc (b % 128), Nat.mul_comm 128 (b % 128 * 128 ^ P.length)]
    omega
theorem valL_lt : ∀ (P : List Nat), valL P < 128 ^ P.length
  | [] => by simp [valL]
  | x :: P => by
    show x % 128 + 128 * valL P < 128 ^ (P.length + 1)
    have := valL_lt P
    rw [Nat.pow_succ]
    omega
theorem varL_good : ∀ (P : List Nat) (b : Nat), (∀ x ∈ P, 128 ≤ x ∧ x < 256) → b < 128 → (P = [] ∨ b ≠ 0) → varL (valL (P ++ [b])) = P ++ [b] ∧ (b ≠ 0 → 0 < valL (P ++ [b])) := by
  intro P
  induction P with
  | nil =>
    intro b _ hb _
    have e : valL ([] ++ [b]) = b := by simp [valL]; omega
    rw [e]
    exact ⟨varL_small b hb, fun h => by omega⟩
  | cons x P ih =>
    intro b hP hb h
    have hb0 : b ≠ 0 := by
      rcases h with h | h
      · simp at h
      · exact h
    obtain ⟨h1, h2⟩ := ih b (fun y hy => hP y (by simp [hy])) hb (Or.inr hb0)
    have h3 := h2 hb0
    have hx := hP x (by simp)
    have e : valL (x :: P ++ [b]) = x % 128 + 128 * valL (P ++ [b]) := rfl
    rw [e]
    refine ⟨?_, fun _ => by omega⟩
    rw [varL_great _ (by omega), show (x % 128 + 128 * valL (P ++ [b])) / 128 = valL (P ++ [b]) by omega, h1, show (x % 128 + 128 * valL (P ++ [b])) % 128 + 128 = x by omega]
    rfl
theorem varL_last : ∀ (n : Nat), 0 < n → (varL n).getLast? ≠ some 0 := by
  intro n
  induction n using Nat.strongRecOn with
  | _ n ih =>
    intro hn
    by_cases h : n < 128
    · rw [varL_small n h]
      simp
      omega
    · rw [varL_great n (by omega)]
      have h2 := ih (n / 128) (by omega) (by omega)
      have hne : varL (n / 128) ≠ [] := by
        rw [varL]
        split <;> simp
      obtain ⟨a, t, ht⟩ := List.exists_cons_of_ne_nil hne
      rw [ht] at h2 ⊢
      rw [List.getLast?_cons_cons]
      exact h2
theorem varL_bad (P : List Nat) (hP : P ≠ []) : varL (valL (P ++ [0])) ≠ P ++ [0] := by
  intro h
  by_cases hn : valL (P ++ [0]) = 0
  · rw [hn, varL_small 0 (by omega)] at h
    have := congrArg List.length h
    obtain ⟨a, t, ht⟩ := List.exists_cons_of_ne_nil hP
    rw [ht] at this
    simp at this
  · have h2 := varL_last _ (Nat.pos_of_ne_zero hn)
    rw [h] at h2
    simp at h2
/-- the shortest form alone is read back -/
theorem varL_iff (P : List Nat) (b : Nat) (hP : ∀ x ∈ P, 128 ≤ x ∧ x < 256) (hb : b < 128) : varL (valL (P ++ [b])) = P ++ [b] ↔ ¬ (b = 0 ∧ 0 < P.length) := by
  constructor
  · rintro h ⟨rfl, h2⟩
    exact varL_bad P (by intro e; rw [e] at h2; simp at h2) h
  · intro h
    refine (varL_good P b hP hb ?_).1
    by_cases hz : b = 0
    · left
      cases P with
      | nil => rfl
      | cons a t => exact absurd ⟨hz, by simp⟩ h
    · exact Or.inr hz
/-- the walk over the bytes: how many rounds, the bytes that are left, the number till now, the next unit, how many bytes stand behind -/
def rvGo : Nat → List Nat → Nat → Nat → Nat → Option (Nat × Nat)
  | 0, _, _, _, _ => none
  | _ + 1, [], _, _, _ => none
  | f + 1, b :: l, n, u, i =>
    if 128 ≤ b then rvGo f l (n + b % 128 * u) (u * 128) (i + 1)
    else if (b = 0 ∧ 0 < i) ∨ 1000000000 < n + b % 128 * u then none else some (n + b % 128 * u, i + 1)
def rvFin (at_ : Nat) : Option (Nat × Nat) → Int × Int × Bool
  | none => (0, 0, false)
  | some (n, c) => ((n : Int), ((at_ + c : Nat) : Int), true)
/-- what ReadVar comes to -/
def readVarOf (s : ByteArray) (a : Int) : Int × Int × Bool :=
  if a < 0 ∨ (s.size : Int) < a then (0, 0, false) else rvFin a.toNat (rvGo 5 ((byteNs s).drop a.toNat) 0 1 0)
theorem pow128 (i : Nat) (h : i ≤ 4) : 128 ^ i ≤ 268435456 := by
  have := Nat.pow_le_pow_right (n := 128) (by omega) h
  simpa using this
theorem rv_arith (b u n : Nat) (hb : b < 256) (hu : u ≤ 268435456) (hn : n < u) :
    wrap64 (b : Int) = (b : Int) ∧ Int.tmod (b : Int) 128 = ((b % 128 : Nat) : Int) ∧ wrap64 (((b % 128 : Nat) : Int) * (u : Int)) = ((b % 128 * u : Nat) : Int) ∧
    wrap64 ((n : Int) + ((b % 128 * u : Nat) : Int)) = ((n + b % 128 * u : Nat) : Int) ∧ wrap64 ((u : Int) * 128) = ((u * 128 : Nat) : Int) ∧ n + b % 128 * u < u * 128 := by
  have hm : b % 128 * u ≤ 127 * u := Nat.mul_le_mul_right u (by omega)
  rw [← Int.natCast_mul, Int.tmod_eq_emod_of_nonneg (by omega)]
  generalize b % 128 * u = p at hm ⊢
  unfold wrap64
  omega
theorem rvGo_bounds : ∀ (f : Nat) (l : List Nat) (n u i : Nat) (r c : Nat), rvGo f l n u i = some (r, c) → r ≤ 1000000000 ∧ i < c ∧ c ≤ i + l.length
  | 0, _, _, _, _, _, _, h => by simp [rvGo] at h
  | _ + 1, [], _, _, _, _, _, h => by simp [rvGo] at h
  | f + 1, b :: l, n, u, i, r, c, h => by
    simp only [rvGo] at h
    split at h
    · have := rvGo_bounds f l _ _ _ r c h
      simp
      omega
    · split at h
      · simp at h
      · simp only [Option.some.injEq, Prod.mk.injEq] at h
        simp
        omega
theorem readVarOf_bounds (s : ByteArray) (a : Int) (h : (readVarOf s a).2.2 = true) : 0 ≤ (readVarOf s a).1 ∧ (readVarOf s a).1 ≤ 1000000000 ∧ 0 ≤ (readVarOf s a).2.1 ∧ (readVarOf s a).2.1 ≤ s.size := by
  unfold readVarOf at h ⊢
  split at h
  · simp at h
  · rename_i h1
    rw [if_neg h1]
    revert h
    cases hr : rvGo 5 ((byteNs s).drop a.toNat) 0 1 0 with
    | none => intro h; simp [rvFin] at h
    | some p =>
      obtain ⟨r, c⟩ := p
      have hb := rvGo_bounds _ _ _ _ _ r c hr
      rw [List.length_drop, byteNs_length] at hb
      intro _
      simp only [rvFin]
      omega
/-- what ReadShort comes to -/
def readShortOf (s : ByteArray) (a : Int) : ByteArray × Int × Bool :=
  if (readVarOf s a).2.2 = false ∨ (readVarOf s a).1 > 20000 ∨ (readVarOf s a).1 > (s.size : Int) - (readVarOf s a).2.1 then (⟨#[]⟩, 0, false)
  else (s.extract (readVarOf s a).2.1.toNat ((readVarOf s a).2.1 + (readVarOf s a).1).toNat, (readVarOf s a).2.1 + (readVarOf s a).1, true)
end Go.Proofs.YtfigfpfgeoadbaaDoor.M
